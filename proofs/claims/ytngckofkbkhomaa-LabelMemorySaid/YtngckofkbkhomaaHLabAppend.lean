/- make([]int, 0, c) and append of a row of numbers to a row of one's own: the runs, in one form. -/
import Derived.Test.YtngckofkbkhomaaHLabBox
import Derived.Laws.MakeOwn
import Derived.Lib.SlFresh
namespace Go.Proofs.Ytngckofkbkhomaa
open Go.RowKit Go.Lib Go.Proofs.YtngckofkbkhomaaW.PrintWords
set_option linter.unusedVariables false
/-- a row of one's own, whatever lies in it -/
def Own (w : World) (base : Nat) (v : Value) (xs : List Int) : Prop := w.ownsRow base 3 1 v xs.length (nums .i64 xs)
theorem make_ints (c : Nat) (hc : c ≤ 1000000) (w : World) :
    (Instr.makeSlice 23 (.int .i64 0) (.int .i64 (c : Int))).run Try.prog w = .ok (.slice (some ⟨w.heap.size, 0, none⟩) 0 c) (w.alloc (.cells (madeCells #[.int .i64 0] c) 3)) := by
  obtain ⟨i, hi, hzz⟩ := Option.map_eq_some_iff.1 int_info
  simp only [Prod.mk.injEq] at hzz
  obtain ⟨hz, hs, hb⟩ := hzz
  have hr := run_make (P := Try.prog) w 23 3 i (.int .i64 0) Try.underlying23 hi hz .i64 .i64 0 c (by omega) (by omega) (by rw [hb]; omega) (by omega)
  have e : (Value.int IntKind.i64 0).cells = #[.int .i64 0] := rfl
  rw [e] at hr
  simpa only [Int.toNat_natCast, hs, Nat.mul_one, Int.toNat_zero] using hr
theorem own_made (c : Nat) (hc : c ≤ 1000000) (w : World) : Own (w.alloc (.cells (madeCells #[.int .i64 0] c) 3)) w.heap.size (.slice (some ⟨w.heap.size, 0, none⟩) 0 c) [] := by
  refine ⟨rfl, .inr ⟨w.heap.size, c, _, rfl, Nat.le_refl _, heap_alloc_new _ _, Nat.zero_le _, by unfold maxLen; omega, ?_, ?_⟩⟩
  · simp [size_madeCells]
  · simp [nums]
theorem append_ints {W : World} {base : Nat} {v : Value} {xs ys : List Int} {A : Option Addr} {m : Nat} (c : Nat) (HO : Own W base v xs) (HR : Kd.C (Kd.int .i64) W A m ys) (hbase : base ≤ W.heap.size) (hl : xs.length + m ≤ 1000000) (ty : TypeId) :
    ∃ v1 w1, (Builtin.append_ #[23, 23] ty #[v, .slice A m c]).run Try.prog W = .ok v1 w1 ∧ Own w1 base v1 (xs ++ ys) ∧ Below base W w1 := by
  obtain ⟨i, hi, hzz⟩ := Option.map_eq_some_iff.1 int_info
  simp only [Prod.mk.injEq] at hzz
  obtain ⟨hz, hs, hb⟩ := hzz
  have hR := Kd.reads_of_C (d := (0 : Int)) HR
  have hm : ys.length = m := hR.1
  rcases A with _ | ad
  · have h0 : m = 0 := by
      rcases Nat.eq_zero_or_pos m with h0 | h0
      · exact h0
      · obtain ⟨ad, h, _⟩ := hR.2.2 h0
        cases h
    subst h0
    obtain rfl : ys = [] := List.eq_nil_of_length_eq_zero hm
    refine ⟨v, W, ?_, by simpa using HO, Below.refl _ _⟩
    rcases HO.2 with ⟨rfl, hn⟩ | ⟨g, cap, cur, rfl, _, _, hnc, _⟩
    · simp [Builtin.append_, run_underlying Try.underlying23, sizeOf, typeInfo, hi, Builtin.lenOf, Builtin.firstCells]
    · simp [Builtin.append_, run_underlying Try.underlying23, sizeOf, typeInfo, hi, Builtin.lenOf, Builtin.firstCells, hnc, storeCells]
  · have hcells : ∀ j u, (nums .i64 ys)[j]? = some u → W.cell? (ad.add j) = some u := by
      intro j u hu
      have hj : j < ys.length := by
        rcases Nat.lt_or_ge j ys.length with h | h
        · exact h
        · simp [nums, List.getElem?_eq_none h] at hu
      obtain ⟨ad', h', hc⟩ := hR.2.2 (by omega)
      injection h' with h'
      subst h'
      rw [hc j (by omega)]
      simp only [nums, List.getElem?_map, List.getElem?_eq_getElem hj, Option.map_some, Option.some.injEq] at hu
      rw [← hu, List.getD_eq_getElem?_getD, List.getElem?_eq_getElem hj]
      rfl
    obtain ⟨v1, w1, hr, h2, h3, _, _⟩ := run_append_own_at (P := Try.prog) W base 23 ty 3 i (.int .i64 0) 1 8 Try.underlying23 hi hz hs hb (by rfl) (by omega) v xs.length (nums .i64 xs) HO ad m c (nums .i64 ys) (by simp [nums, hm]) hcells
      (by intro u hu; simp only [nums, List.mem_map] at hu; obtain ⟨q, _, rfl⟩ := hu; rfl) (by unfold maxLen; omega) (by omega) hbase
    refine ⟨v1, w1, hr, ?_, (Below.refl base W).grown h3 hbase (own_base HO)⟩
    have e : nums .i64 (xs ++ ys) = nums .i64 xs ++ nums .i64 ys := by simp [nums]
    unfold Own
    rw [e, List.length_append, hm]
    exact h2
theorem own_reads {W : World} {base : Nat} {v : Value} {xs : List Int} (h : Own W base v xs) : ∃ E m, v = .slice E xs.length m ∧ xs.length ≤ m ∧ Kd.C (Kd.int .i64) W E xs.length xs := by
  have hR : Kd.R (Kd.int .i64) 3 W base (fun _ => True) v xs := Kd.R_of_own h (fun _ _ => trivial)
  exact Kd.R_reads hR
theorem own_reads2 {W : World} {base : Nat} {v : Value} {xs : List Int} (h : Own W base v xs) : ∃ E m, v = .slice E xs.length m ∧ xs.length ≤ m ∧ Kd.C (Kd.int .i64) W E xs.length xs ∧ ∀ ad, E = some ad → base ≤ ad.block := by
  obtain ⟨E, m, rfl, h1, h2⟩ := own_reads h
  refine ⟨E, m, rfl, h1, h2, ?_⟩
  intro ad hE
  subst hE
  rcases h.2 with ⟨he, _⟩ | ⟨g, cap, cur, he, hb, _⟩
  · cases he
  · injection he with e1
    injection e1 with e1
    subst e1
    exact hb
/-- the operation 'append' -/
theorem wp_append_ints {W : World} {base : Nat} {v : Value} {xs ys : List Int} {A : Option Addr} {m c : Nat} {o : Oper} {a : Act} {K : Act → World → Prop} {Q : Exit → Act → World → Prop} {s x : Operand}
    (ho : o.op = .call { callee := .builtin .append, args := #[s, x], argTypes := #[23, 23] }) (hs : a.eval s = v) (hx : a.eval x = .slice A m c) (hg : o.guard = none)
    (HO : Own W base v xs) (HR : Kd.C (Kd.int .i64) W A m ys) (hbase : base ≤ W.heap.size) (hl : xs.length + m ≤ 1000000) {y : Nat → Option Bool}
    (h : ∀ v1 w1, Own w1 base v1 (xs ++ ys) → Below base W w1 → K (a.put o.dst v1) w1) {e : Prop} : if Region.wanted o y = true then o.wp Try.prog a W K Q else e := by
  rw [if_pos (by simp [Region.wanted, hg])]
  obtain ⟨v1, w1, hr, h1, h2⟩ := append_ints c HO HR hbase hl o.type
  exact wp_append_run_sl W s x _ ho v _ hs hx hr (h v1 w1 h1 h2)
end Go.Proofs.Ytngckofkbkhomaa
