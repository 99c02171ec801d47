/- Opening the arguments of a row: numbers, rows of numbers. -/
import Derived.Test.YtmonlhgfgnfbdaaHRow
import Derived.Test.YtmonlhgfgnfbdaaHDkLoop
import Derived.Deep.Strs
import Derived.WalkKit
import Derived.ProofKit
import Derived.OpenShut
import Derived.ShutString
import Derived.ChangeOld
import Derived.Below
import Derived.SizedLaws
namespace Go.Proofs.Ytmonlhgfgnfbdaa
open Go.RowKit Go.Proofs.YtmonlhgfgnfbdaaW.PrintWords Go.ChangeShapes Go.WideShapes Go.ChangeAt
set_option linter.unusedVariables false
theorem rng_of_wf {a : Int} (h : (Lit.int .i64 a).wf = true) : Rng a := by
  have h2 : (decide (IntKind.min .i64 ≤ a) && decide (a ≤ IntKind.max .i64)) = true := h
  rw [Bool.and_eq_true, decide_eq_true_eq, decide_eq_true_eq] at h2
  exact h2
theorem open_ints_C {H : Type} {enc : TypeId × Value → H} {P : Program} {W : World} {base t e : Nat} {v : Value} {d : DataW H} {p : List MemPlace} (ht : P.underlying t = some (.slice e)) (he : P.underlying e = some (.int .i64)) (hc : P.cellsOf e = 1)
    (hv : Value.okWide P W .any base t v) (h : DataW.Trod enc P W 0 (fun _ => true) true t v d p) :
    ∃ (A : Option Addr) (c : Nat) (l : List Int), v = .slice A l.length c ∧ l.length ≤ c ∧ c ≤ maxLen ∧ Kd.C (Kd.int .i64) W A l.length l := by
  obtain ⟨a0, len, cap, rfl⟩ := okWide_slice ht hv
  obtain ⟨fuel, hf⟩ := h
  rcases open_ints ht he hc hf with ⟨hcs, hx⟩ | ⟨a, len', cap', ss, hcs, _, hl, hm, hz, hx, hcell, hsz⟩
  · simp [Value.cells] at hcs
    obtain ⟨rfl, rfl, rfl⟩ := hcs
    exact ⟨none, 0, [], rfl, Nat.le_refl _, Nat.zero_le _, Kd.C_nil _ _⟩
  · simp [Value.cells] at hcs
    obtain ⟨rfl, rfl, rfl⟩ := hcs
    simp only [if_true] at hz
    have hlen : (ss.take len).length = len := by rw [List.length_take]; omega
    refine ⟨some a, cap, ss.take len, by rw [hlen], by omega, hm, ?_⟩
    rw [hlen]
    refine ⟨hlen, by unfold maxLen at hm; omega, fun _ => ⟨a, rfl, fun j x hj => ⟨[.int .i64 x], rfl, rfl, fun i u hu => ?_⟩⟩⟩
    have hjl : j < len := by
      have := (List.getElem?_eq_some_iff.1 hj).1
      omega
    have hi : i = 0 := by
      have := (List.getElem?_eq_some_iff.1 hu).1
      simp at this
      exact this
    subst hi
    have hu : Value.int .i64 x = u := by simpa using hu
    subst hu
    have := hcell j (by omega)
    rw [show j * (Kd.int .i64).sz + 0 = j from by show j * 1 + 0 = j; omega, this]
    congr 2
    rw [List.getElem?_take, if_pos hjl] at hj
    rw [List.getD_eq_getElem?_getD, hj]
    rfl
theorem spot_none {W : World} {a : Addr} {v : Value} (h : W.cell? a = some v) : ∃ b o, a = ⟨b, o, none⟩ := by
  obtain ⟨b, o, sp⟩ := a
  cases sp with
  | none => exact ⟨b, o, rfl⟩
  | some x =>
    simp only [World.cell?] at h
    split at h <;> simp at h
theorem open_wps {H : Type} {enc : TypeId × Value → H} {P : Program} {W : World} {base t e : Nat} {v : Value} {d : DataW H} {p : List MemPlace} {f0 f1 f2 : Field} (ht : P.underlying t = some (.slice e)) (he : P.underlying e = some (.struct #[f0, f1, f2])) (hc : P.cellsOf e = 3)
    (o0 : f0.offset = 0) (o1 : f1.offset = 1) (o2 : f2.offset = 2) (t0 : P.underlying f0.type = some (.int .i64)) (t1 : P.underlying f1.type = some .string) (t2 : P.underlying f2.type = some .bool) (c0 : P.cellsOf f0.type = 1) (c1 : P.cellsOf f1.type = 1) (c2 : P.cellsOf f2.type = 1)
    (hv : Value.okWide P W .any base t v) (h : DataW.Trod enc P W 0 (fun _ => true) true t v d p) :
    ∃ (A : Option Addr) (c : Nat) (l : List (Int × ByteArray × Bool)), v = .slice A l.length c ∧ WPs W A l := by
  obtain ⟨a0, len, cap, rfl⟩ := okWide_slice ht hv
  obtain ⟨fuel, hf⟩ := h
  rcases Go.Deep.open_slice ht hf with ⟨hcs, hx⟩ | ⟨a, len', cap', m, n, D, Pl, hcs, _, hl, hm, hmm, hx, hel⟩
  · simp [Value.cells] at hcs
    obtain ⟨rfl, rfl, rfl⟩ := hcs
    exact ⟨none, 0, [], rfl, fun i hi => by cases hi⟩
  · simp [Value.cells] at hcs
    obtain ⟨rfl, rfl, rfl⟩ := hcs
    simp only [if_true] at hmm
    have key : ∀ i, i < len → ∃ x : Int × ByteArray × Bool, Rng x.1 ∧ W.cell? (a.add (i * 3)) = some (.int .i64 x.1) ∧ W.cell? (a.add (i * 3 + 1)) = some (.string x.2.1) ∧ W.cell? (a.add (i * 3 + 2)) = some (.bool x.2.2) := by
      intro i hi
      obtain ⟨cs', h1, h2⟩ := hel i (by omega)
      rw [hc] at h1
      obtain ⟨y0, y1, y2, n', _, hlen, k0, k1, k2⟩ := Go.Deep.trod_struct3 he h2
      rw [o0, c0] at k0
      rw [o1, c1] at k1
      rw [o2, c2] at k2
      obtain ⟨x0, e0, _, wf⟩ := DataW.trod_int t0 k0
      obtain ⟨x1, e1, _, _⟩ := DataW.trod_string t1 k1
      obtain ⟨x2, e2, _⟩ := DataW.trod_bool t2 k2
      rw [hc] at hlen
      match cs', hlen with
      | [u0, u1, u2], _ =>
        simp at e0 e1 e2
        subst e0 e1 e2
        have hcell := (World.cells?_some h1).2.2
        have q0 := hcell 0 (by omega)
        have q1 := hcell 1 (by omega)
        have q2 := hcell 2 (by omega)
        rw [Addr.add_add] at q0 q1 q2
        exact ⟨(x0, x1, x2), rng_of_wf wf, q0, q1, q2⟩
    obtain ⟨f, hf⟩ := Go.Deep.choose_lt key
    refine ⟨some a, cap, (List.range len).map f, by simp, ?_⟩
    intro i hi
    have hil : i < len := by simpa using hi
    have hg : ((List.range len).map f)[i] = f i := by simp
    rw [hg]
    obtain ⟨hr, _, _, _⟩ := hf i hil
    obtain ⟨_, z0, _, _⟩ := hf 0 (by omega)
    rw [Nat.zero_mul, Addr.add_zero'] at z0
    obtain ⟨b, o, rfl⟩ := spot_none z0
    obtain ⟨_, y0, y1, y2⟩ := hf i hil
    rw [Addr.add_lit] at y0 y1 y2
    exact ⟨hr, b, o, rfl, y0, y1, y2⟩
end Go.Proofs.Ytmonlhgfgnfbdaa
