/- slices.Grow of nil and slices.Concat of two []int: what they answer. -/
import Derived.Test.YtngckofkbkhomaaProg
import Derived.WalkKit
import Derived.WalkMore
import Derived.Deep.LoopGhost
import Derived.Deep.QuietTactic
import Derived.BigQuiet
import Derived.Lib.AppendZerosOnto
import Derived.Test.YtngckofkbkhomaaWWords
import Derived.Test.YtngckofkbkhomaaWLast
import Derived.Test.YtngckofkbkhomaaWMore
namespace Go.Proofs.Ytngckofkbkhomaa
open Go.RowKit Go.Lib Go.Proofs.YtngckofkbkhomaaW.PrintWords Go.Proofs.YtngckofkbkhomaaW.PrintLast Go.Proofs.YtngckofkbkhomaaW.PrintMore
set_option linter.unusedVariables false
set_option linter.unusedSimpArgs false
theorem int_info : (Try.prog.info? 3).map (fun i => (i.zero, i.size, i.bytes)) = some (some (.int .i64 0), 1, 8) := by kernel_rfl

set_option maxHeartbeats 4000000 in
set_option maxRecDepth 100000 in
theorem grow_nil_calls (n : Nat) (w : World) (hn : n ≤ 1099511627776) :
    Calls Try.prog 38 #[.slice none 0 0, .int .i64 (n : Int)] w fun e w' => ∃ v, e = .returned v ∧ w'.ownsRow w.heap.size 3 1 v 0 [] ∧ Below w.heap.size w w' := by
  rcases Nat.eq_zero_or_pos n with rfl | h0
  · go_enter Try.func38, Try.ntmps38
    go_wp2
    go_ret
    exact ⟨_, rfl, ⟨rfl, .inl ⟨rfl, rfl⟩⟩, Below.refl _ _⟩
  · obtain ⟨i0, hi, hzz⟩ := Option.map_eq_some_iff.1 int_info
    simp only [Prod.mk.injEq] at hzz
    obtain ⟨hz0, hz1, hz2⟩ := hzz
    have hrz : ∀ ty, (Builtin.append_ #[23, 3] ty #[.slice none 0 0, .int .i64 (n : Int)]).run Try.prog w =
        .ok (.slice (some ⟨w.heap.size, 0, none⟩) n (grownCap w n 0 3)) (w.drew.alloc (.cells (Builtin.zeroCells #[.int .i64 0] n ++ Builtin.zeroCells #[.int .i64 0] (grownCap w n 0 3 - n)) 3)) := fun ty =>
      Lib.run_append_nil_zeros w 23 3 ty 3 i0 (.int .i64 0) .i64 .i64 Try.underlying23 Try.underlying3 hi hz0 n h0 (by omega) (by omega) (by rw [hz2]; omega)
    have hG : n ≤ grownCap w n 0 3 := grownCap_ge w _ _ _
    have hM : grownCap w n 0 3 ≤ maxLen := grownCap_le_maxLen w n 0 3 (by unfold maxLen; omega)
    generalize grownCap w n 0 3 = G at hrz hG hM
    have h1 : ¬ ((n : Int) < 0) := by omega
    have h2 : wrap64 ((n : Int) - 0) = (n : Int) := by unfold wrap64; omega
    have h4 : (n : Int) > 0 := by omega
    have hGM := hM
    unfold maxLen at hGM
    have hw64 : wrap64 (n : Int) = (n : Int) := by unfold wrap64; omega
    go_enter Try.func38, Try.ntmps38
    go_wp2_with (at_builtin; refine Lib.wpList_append_run _ rfl _ _ _ _ rfl _ _ rfl rfl _ _ (hrz _) ?_)
    go_ret
    refine ⟨_, rfl, ⟨rfl, .inr ⟨w.heap.size, G, _, rfl, Nat.le_refl _, heap_alloc_new _ _, Nat.zero_le _, hM, ?_, ?_⟩⟩, ?_⟩
    · simp [Builtin.zeroCells]; omega
    · simp
    · exact below_alloc (below_drew1 (Below.refl _ _)) _

set_option maxHeartbeats 8000000 in
set_option maxRecDepth 100000 in
theorem concat_calls (B : Nat) (A1 A2 : Option Addr) (c1 c2 : Nat) (l1 l2 : List Int) (w : World) (h0 : w.cell? ⟨B, 0, none⟩ = some (.slice A1 l1.length c1)) (h1 : w.cell? ⟨B, 1, none⟩ = some (.slice A2 l2.length c2)) (hB : B < w.heap.size)
    (hr1 : Kd.C (Kd.int .i64) w A1 l1.length l1) (hr2 : Kd.C (Kd.int .i64) w A2 l2.length l2) (hs1 : l1.length ≤ 549755813888) (hs2 : l2.length ≤ 549755813888) :
    Calls Try.prog 34 #[.slice (some ⟨B, 0, none⟩) 2 2] w fun e w' => ∃ v, e = .returned v ∧ w'.ownsRow w.heap.size 3 1 v (l1 ++ l2).length (nums .i64 (l1 ++ l2)) ∧ Below w.heap.size w w' := by
  have HR1 := Aside0.mk hr1
  have HR2 := Aside0.mk hr2
  have HS := Aside0.mk (And.intro hs1 hs2)
  clear hr1 hr2
  have HG := grow_nil_calls (l1.length + l2.length) w (by omega)
  rw [show ((l1.length + l2.length : Nat) : Int) = (l1.length : Int) + l2.length by omega] at HG
  go_enter Try.func34, Try.ntmps34
  go_wp2
  go_loopg [3, 11] 3 (fun gk n k w' => w = w' ∧ ∃ m i : Int, n = .int .i64 m ∧ k = .int .i64 i ∧ Aside0 ((i = 0 ∧ m = 0 ∧ gk = 3) ∨ (i = 1 ∧ m = l1.length ∧ gk = 2) ∨ (i = 2 ∧ m = l1.length + l2.length ∧ gk = 1)))
  case atStart => exact ⟨rfl, 0, 0, rfl, rfl, ⟨.inl ⟨rfl, rfl, rfl⟩⟩⟩
  case round =>
    obtain ⟨rfl, m, i, rfl, rfl, HI⟩ := hrel
    rcases HI.out with ⟨rfl, rfl, rfl⟩ | ⟨rfl, rfl, rfl⟩ | ⟨rfl, rfl, rfl⟩
    · have hw : wrap64 (l1.length : Int) = l1.length := by unfold wrap64; omega
      have hn : ¬ ((l1.length : Int) < 0) := by omega
      go_wp2
      go_roundg 2
      case rel => exact ⟨rfl, l1.length, 1, rfl, rfl, ⟨.inr (.inl ⟨rfl, rfl, rfl⟩)⟩⟩
      case measure => omega
    · have hw : wrap64 ((l1.length : Int) + l2.length) = (l1.length : Int) + l2.length := by unfold wrap64; omega
      have hn : ¬ ((l1.length : Int) + l2.length < 0) := by omega
      go_wp2
      go_roundg 1
      case rel => exact ⟨rfl, l1.length + l2.length, 2, rfl, rfl, ⟨.inr (.inr ⟨rfl, rfl, rfl⟩)⟩⟩
      case measure => omega
    · go_wp2_with (go_at_call 38; refine HG.mono ?_; rintro e w1 ⟨v, rfl, ho, hb⟩)
      have HO := Aside0.mk ho
      have HB := Aside0.mk hb
      have H0 := Aside0.mk h0
      have H1 := Aside0.mk h1
      clear ho hb HG
      go_loopg [6, 27] 3 (fun gk v k w' => ∃ (i : Int) (xs : List Int), k = .int .i64 i ∧ Aside0 (w'.ownsRow w.heap.size 3 1 v xs.length (nums .i64 xs) ∧ Below w.heap.size w w') ∧ Aside0 ((i = 0 ∧ xs = [] ∧ gk = 3) ∨ (i = 1 ∧ xs = l1 ∧ gk = 2) ∨ (i = 2 ∧ xs = l1 ++ l2 ∧ gk = 1)))
      case atStart => exact ⟨0, [], rfl, ⟨⟨HO.out, HB.out⟩⟩, ⟨.inl ⟨rfl, rfl, rfl⟩⟩⟩
      case round =>
        clear HO HB h0 h1
        obtain ⟨i, xs, rfl, HW, HJ⟩ := hrel
        rename_i w'
        have hb := HW.out.2
        have h0' := (hb.cell (p := ⟨B, 0, none⟩) hB).trans H0.out
        have h1' := (hb.cell (p := ⟨B, 1, none⟩) hB).trans H1.out
        have HR1' := Aside0.mk (Kd.reads_of_C (d := (0 : Int)) (Kd.C_below HR1.out hb))
        have HR2' := Aside0.mk (Kd.reads_of_C (d := (0 : Int)) (Kd.C_below HR2.out hb))
        clear hb
        rcases HJ.out with ⟨rfl, rfl, rfl⟩ | ⟨rfl, rfl, rfl⟩ | ⟨rfl, rfl, rfl⟩
        · go_wp2_with (at_builtin; refine print_append_row_of (Value.int .i64) (0 : Int) w.heap.size rfl _ _ 23 3 (.int .i64 0) 8 rfl Try.underlying23 int_info rfl (by omega) (fun _ => rfl) _ ([] : List Int) l1 _ _ _ rfl rfl HW.out.1 HR1'.out HW.out.2 HW.out.2.size (by first | omega | (simp; omega)) ?_; intro v1 w2 ho1 hb1 _ _)
          go_roundg 2
          case rel => exact ⟨1, l1, rfl, ⟨⟨ho1, hb1⟩⟩, ⟨.inr (.inl ⟨rfl, rfl, rfl⟩)⟩⟩
          case measure => omega
        · go_wp2_with (at_builtin; refine print_append_row_of (Value.int .i64) (0 : Int) w.heap.size rfl _ _ 23 3 (.int .i64 0) 8 rfl Try.underlying23 int_info rfl (by omega) (fun _ => rfl) _ xs l2 _ _ _ rfl rfl HW.out.1 HR2'.out HW.out.2 HW.out.2.size (by first | omega | (simp; omega)) ?_; intro v1 w2 ho1 hb1 _ _)
          go_roundg 1
          case rel => exact ⟨2, xs ++ l2, rfl, ⟨⟨ho1, hb1⟩⟩, ⟨.inr (.inr ⟨rfl, rfl, rfl⟩)⟩⟩
          case measure => omega
        · go_wp2
          go_ret
          exact ⟨u6, rfl, by have h := HW.out.1; rw [List.length_append] at h; exact h, HW.out.2⟩
end Go.Proofs.Ytngckofkbkhomaa
