/- Raw and the reference's Allows on a state; a table of labels of any fields. -/
import Derived.Test.YtngckofkbkhomaaHLabRaw
import Derived.Test.YtngckofkbkhomaaHLabRef
namespace Go.Proofs.Ytngckofkbkhomaa
open Go.RowKit Go.Lib Go.Proofs.Ytngckofkbkhomaa.PBase Go.Proofs.YtngckofkbkhomaaW.PrintWords
set_option linter.unusedVariables false
variable {w W : World} {L : List (Option Addr × List Int)} {M : List (Nat × Array Value × TypeId)}
theorem raw_st (x0 x1 x2 x3 : Int) (A : Option Addr) (c : Nat) (l : List Int) (r : Lab) (h1 : x0 = r.u) (h2 : l.take 80 = r.after) (h3 : x2 = r.ap) (h4 : x3 = r.den) (hcm : c ≤ 9223372036854775807) (h : St w L M W) (hr : (A, l) ∈ L) (hc : l.length ≤ c) :
    Calls Try.prog 15 #[.agg #[.int .i64 x0, .int .i64 x1, .int .i64 x2, .int .i64 x3], .slice A l.length c] W fun e w' =>
      ∃ E m, e = .returned (.agg #[.int .i64 r.u, .slice E r.after.length m, .int .i64 r.ap, .int .i64 r.den]) ∧ r.after.length ≤ m ∧ St w ((E, r.after) :: L) M w' := by
  refine (raw_calls x0 x1 x2 x3 A c l W (h.get hr) hc hcm).mono ?_
  rintro e w' ⟨E, m, rfl, hm, hC, hb⟩
  rw [h2] at hm hC ⊢
  rw [h1, h3, h4]
  exact ⟨E, m, rfl, hm, (h.step hb).add hC⟩
theorem rallows_st (x : Lab) (A B : Option Addr) (c d : Nat) (cl now : Int) (out : List Int) (n : Int) (h : St w L M W) (hx : (A, x.after) ∈ L) (hc : x.after.length ≤ c) (ho : (B, out) ∈ L) (hd : out.length ≤ d) :
    Calls Try.prog 25 #[.agg #[.int .i64 x.u, .slice A x.after.length c, .int .i64 x.ap, .int .i64 x.den], .int .i64 cl, .int .i64 now, .slice B out.length d, .int .i64 n] W fun e w' => e = .returned (.bool (Lab.allows x cl now out n)) ∧ St w L M w' := by
  obtain ⟨k, hk⟩ := (rallows_ev x cl now out n (h.get hx).2.1 (h.get ho).2.1).rounds
  refine (copydeskref02_Allows.calls k x.u A c x.after x.ap x.den cl now B d out n _ W (h.get hx) hc (h.get ho) hd hk).mono ?_
  rintro e w' ⟨rfl, hb⟩
  exact ⟨rfl, h.step hb⟩
/-- what a table's entry is, of any fields -/
structure EntryR (w : World) (L : List (Option Addr × List Int)) (B : Nat) (cs : Array Value) (t : TypeId) (i : Nat) (x : Lab) (E : Option Addr) (m : Nat) : Prop where
  row : (E, x.after) ∈ L
  cap : x.after.length ≤ m
  cells : ∀ (L' : List (Option Addr × List Int)) (M' : List (Nat × Array Value × TypeId)) (W' : World), (B, cs, t) ∈ M' → St w L' M' W' →
    W'.cell? ⟨B, i * 4, none⟩ = some (.int .i64 x.u) ∧ W'.cell? ⟨B, i * 4 + 1, none⟩ = some (.slice E x.after.length m) ∧
    W'.cell? ⟨B, i * 4 + 2, none⟩ = some (.int .i64 x.ap) ∧ W'.cell? ⟨B, i * 4 + 3, none⟩ = some (.int .i64 x.den)
theorem entryR_at {w : World} {L : List (Option Addr × List Int)} {B : Nat} {cs : Array Value} {t : TypeId} (xs : List Ent) (he : cs = (tcells xs).toArray)
    (hx : ∀ p ∈ xs, (p.2.1, p.1.after) ∈ L ∧ p.1.after.length ≤ p.2.2) (i : Nat) (hi : i < xs.length) : ∃ x E m, EntryR w L B cs t i x E m := by
  obtain ⟨h2, h3⟩ := hx xs[i] (List.getElem_mem hi)
  refine ⟨xs[i].1, xs[i].2.1, xs[i].2.2, h2, h3, ?_⟩
  intro L' M' W' hM h
  obtain ⟨e0, e1, e2, e3⟩ := tcells_get xs i hi
  refine ⟨(h.cell hM (i * 4)).trans ?_, (h.cell hM (i * 4 + 1)).trans ?_, (h.cell hM (i * 4 + 2)).trans ?_, (h.cell hM (i * 4 + 3)).trans ?_⟩ <;> rw [he, List.getElem?_toArray, Nat.mul_comm i 4] <;> assumption
end Go.Proofs.Ytngckofkbkhomaa
