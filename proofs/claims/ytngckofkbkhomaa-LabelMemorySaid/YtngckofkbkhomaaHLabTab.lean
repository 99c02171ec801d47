/- A table of labels in one block, read at any index. -/
import Derived.Test.YtngckofkbkhomaaHLabMore
import Derived.Test.YtngckofkbkhomaaHRegStep
namespace Go.Proofs.Ytngckofkbkhomaa
open Go.RowKit Go.Proofs.YtngckofkbkhomaaW.PrintWords
set_option linter.unusedVariables false
abbrev Ent := Lab × Option Addr × Nat
/-- the cells of a table of labels -/
def tcells : List Ent → List Value
  | [] => []
  | e :: r => .int .i64 e.1.u :: .slice e.2.1 e.1.after.length e.2.2 :: .int .i64 e.1.ap :: .int .i64 e.1.den :: tcells r
theorem tcells_get : ∀ (xs : List Ent) (i : Nat) (h : i < xs.length),
    (tcells xs)[4 * i]? = some (.int .i64 xs[i].1.u) ∧ (tcells xs)[4 * i + 1]? = some (.slice xs[i].2.1 xs[i].1.after.length xs[i].2.2) ∧
    (tcells xs)[4 * i + 2]? = some (.int .i64 xs[i].1.ap) ∧ (tcells xs)[4 * i + 3]? = some (.int .i64 xs[i].1.den)
  | [], i, h => absurd h (Nat.not_lt_zero i)
  | e :: r, 0, _ => ⟨rfl, rfl, rfl, rfl⟩
  | e :: r, i + 1, h => by
    have h' : i < r.length := by simpa using h
    obtain ⟨h0, h1, h2, h3⟩ := tcells_get r i h'
    have e0 : 4 * (i + 1) = 4 * i + 1 + 1 + 1 + 1 := by omega
    rw [e0]
    simp only [tcells, List.getElem?_cons_succ, List.getElem_cons_succ]
    exact ⟨h0, h1, h2, h3⟩
/-- what a table's entry is -/
structure Entry (w : World) (L : List (Option Addr × List Int)) (B : Nat) (cs : Array Value) (t : TypeId) (i : Nat) (x : Lab) (E : Option Addr) (m : Nat) : Prop where
  ok : Lab.Ok x
  row : (E, x.after) ∈ L
  cap : x.after.length ≤ m
  cells : ∀ (L' : List (Option Addr × List Int)) (M' : List (Nat × Array Value × TypeId)) (W' : World), (B, cs, t) ∈ M' → St w L' M' W' →
    W'.cell? ⟨B, i * 4, none⟩ = some (.int .i64 x.u) ∧ W'.cell? ⟨B, i * 4 + 1, none⟩ = some (.slice E x.after.length m) ∧
    W'.cell? ⟨B, i * 4 + 2, none⟩ = some (.int .i64 x.ap) ∧ W'.cell? ⟨B, i * 4 + 3, none⟩ = some (.int .i64 x.den)
/-- a table's entry at an index -/
theorem entry_at {w : World} {L : List (Option Addr × List Int)} {B : Nat} {cs : Array Value} {t : TypeId} (xs : List Ent) (he : cs = (tcells xs).toArray)
    (hx : ∀ p ∈ xs, Lab.Ok p.1 ∧ (p.2.1, p.1.after) ∈ L ∧ p.1.after.length ≤ p.2.2) (i : Nat) (hi : i < xs.length) : ∃ x E m, x ∈ xs.map (·.1) ∧ Entry w L B cs t i x E m := by
  obtain ⟨h1, h2, h3⟩ := hx xs[i] (List.getElem_mem hi)
  refine ⟨xs[i].1, xs[i].2.1, xs[i].2.2, List.mem_map_of_mem (List.getElem_mem hi), h1, h2, h3, ?_⟩
  intro L' M' W' hM h
  obtain ⟨e0, e1, e2, e3⟩ := tcells_get xs i hi
  refine ⟨(h.cell hM (i * 4)).trans ?_, (h.cell hM (i * 4 + 1)).trans ?_, (h.cell hM (i * 4 + 2)).trans ?_, (h.cell hM (i * 4 + 3)).trans ?_⟩ <;> rw [he, List.getElem?_toArray, Nat.mul_comm i 4] <;> assumption
theorem St.sub {w W : World} {L L' : List (Option Addr × List Int)} {M M' : List (Nat × Array Value × TypeId)} (h : St w L M W) (hL : ∀ p ∈ L', p ∈ L) (hM : ∀ p ∈ M', p ∈ M) : St w L' M' W :=
  ⟨fun p hp => h.rows p (hL p hp), fun p hp => h.boxes p (hM p hp), h.bel⟩
end Go.Proofs.Ytngckofkbkhomaa
