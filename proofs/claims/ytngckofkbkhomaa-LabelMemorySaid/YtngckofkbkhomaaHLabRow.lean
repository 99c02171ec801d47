/- [4]int and [3]int parameters, opened. -/
import Derived.Test.YtngckofkbkhomaaHRow
import Derived.Laws.IdiomArrays
import Derived.Test.YtngckofkbkhomaaHLabCalls
namespace Go.Proofs.Ytngckofkbkhomaa
set_option linter.unusedVariables false
set_option linter.unusedSimpArgs false
open Go.ChangeShapes Go.WideShapes Go.ChangeAt Go.RowKit
theorem rng_of_wf {a : Int} (h : (Lit.int .i64 a).wf = true) : Rng a := by
  have h2 : (decide (IntKind.min .i64 ≤ a) && decide (a ≤ IntKind.max .i64)) = true := h
  rw [Bool.and_eq_true, decide_eq_true_eq, decide_eq_true_eq] at h2
  exact h2
theorem open_arr4 {H : Type} {enc : TypeId × Value → H} {P : Program} {W : World} {base b0 t e : Nat} {v : Value} {d : DataW H} {p : List MemPlace} (ht : P.underlying t = some (.array 4 e)) (he : P.underlying e = some (.int .i64)) (hce : P.cellsOf e = 1) (hct : P.cellsOf t = 4)
    (hv : Value.okWide P W .any base t v) (h : DataW.Trod enc P W b0 (fun _ => true) true t v d p) :
    ∃ a b c d', v = .agg #[.int .i64 a, .int .i64 b, .int .i64 c, .int .i64 d'] ∧ Rng a ∧ Rng b ∧ Rng c ∧ Rng d' := by
  unfold Value.okWide at hv
  rw [ht] at hv
  obtain ⟨cs, rfl, hs, _⟩ := hv
  rw [hct] at hs
  obtain ⟨l⟩ := cs
  obtain ⟨fuel, hf⟩ := h
  match l, hs with
  | [c0, c1, c2, c3], _ =>
    obtain ⟨y0, y1, y2, y3, n, _, h0, h1, h2, h3⟩ := trod_array4 ht hce (by simpa [Value.cells] using hf)
    obtain ⟨z0, e0, _, w0⟩ := DataW.trod_int he h0
    obtain ⟨z1, e1, _, w1⟩ := DataW.trod_int he h1
    obtain ⟨z2, e2, _, w2⟩ := DataW.trod_int he h2
    obtain ⟨z3, e3, _, w3⟩ := DataW.trod_int he h3
    simp at e0 e1 e2 e3
    subst e0 e1 e2 e3
    exact ⟨z0, z1, z2, z3, rfl, rng_of_wf w0, rng_of_wf w1, rng_of_wf w2, rng_of_wf w3⟩
end Go.Proofs.Ytngckofkbkhomaa
