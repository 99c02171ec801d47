/- The fixed calls of the laws: they come out as they should. -/
import Derived.Test.YtmonlhgfgnfbdaaHDkSmall
namespace Go.Proofs.Ytmonlhgfgnfbdaa
open Go.RowKit Go.Lib Go.Proofs.YtmonlhgfgnfbdaaW.PrintWords Go.Proofs.YtmonlhgfgnfbdaaW.PrintLast Go.Proofs.YtmonlhgfgnfbdaaW.PrintMore
set_option linter.unusedVariables false
set_option linter.unusedSimpArgs false
set_option maxHeartbeats 32000000
set_option maxRecDepth 100000
def z0 : DD := ⟨false, 0, [0, 0, 0, 0], [0, 0, 0, 0], []⟩
def z1 : DD := ⟨false, 0, [0, 0, 0, 0], [97, 98, 0, 0], [⟨0, ⟨#[97, 98]⟩⟩]⟩
def z2 : DD := ⟨false, 0, [0, 0, 0, 0], [97, 120, 121, 0], [⟨0, ⟨#[97, 98]⟩⟩, ⟨1, ⟨#[120, 121]⟩⟩]⟩
def z3 : DD := ⟨false, 0, [97, 120, 0, 0], [97, 120, 0, 0], []⟩
def z4 : DD := ⟨false, 1, [97, 120, 0, 0], [97, 120, 0, 0], []⟩
def z5 : DD := ⟨true, 0, [97, 120, 0, 0], [97, 120, 0, 113], [⟨3, ⟨#[113]⟩⟩]⟩
theorem sane1 : writeS z0 0 ⟨#[97, 98]⟩ = z1 ∧ writeE z0 0 ⟨#[97, 98]⟩ = 0 := ⟨rfl, rfl⟩
theorem sane2 : writeS z1 1 ⟨#[120, 121]⟩ = z2 ∧ writeE z1 1 ⟨#[120, 121]⟩ = 0 := ⟨rfl, rfl⟩
theorem sane3 : writeS z2 3 ⟨#[122, 122]⟩ = z2 ∧ writeE z2 3 ⟨#[122, 122]⟩ = 230 := ⟨rfl, rfl⟩
theorem sane4 : readS z2 0 4 = ⟨#[97, 120, 121, 0]⟩ ∧ readE z2 0 4 = 0 := ⟨rfl, rfl⟩
theorem sane5 : crashS z2 [1, 0] 1 = z3 := by
  have h : orderOf [1, 0] = [0, 1] := order_desc (l := [0, 1]) (by simp)
  unfold crashS crashDur
  rw [h]
  rfl
theorem sane6 : readS z3 0 4 = ⟨#[97, 120, 0, 0]⟩ ∧ readE z3 0 4 = 0 := ⟨rfl, rfl⟩
theorem sane7 : cutS z3 1 = z4 ∧ cutE z3 1 = 0 := ⟨rfl, rfl⟩
theorem sane8 : writeS z4 3 ⟨#[113]⟩ = z5 ∧ writeE z4 3 ⟨#[113]⟩ = 0 := ⟨rfl, rfl⟩
theorem sane9 : syncS z5 = z5 ∧ syncE z5 = 231 := ⟨rfl, rfl⟩
theorem crash_sane {W : World} {base d g1 g2 : Nat} {pv : Value} (h : Dk W base d g1 g2 pv z2) :
    Calls Try.prog 21 #[.pointer (some ⟨d, 0, none⟩), .slice (some ⟨W.heap.size, 0, none⟩) 2 2, .int .i64 1] (W.alloc (.cells #[.int .i64 1, .int .i64 0] 3)) fun e W' => e = .returned (.int .i64 0) ∧ ∃ pv', Step (W.alloc (.cells #[.int .i64 1, .int .i64 0] 3)) base d g1 g2 pv z3 W' pv' := by
  have e1 := heap_alloc_new W (.cells #[.int .i64 1, .int .i64 0] 3)
  have hc := crash_calls (h.below (below_alloc (Below.refl _ W) (.cells #[.int .i64 1, .int .i64 0] 3))) (by
    intro w hw
    simp only [z2, List.mem_cons, List.not_mem_nil, or_false] at hw
    rcases hw with rfl | rfl <;> decide) (some ⟨W.heap.size, 0, none⟩) 2 [1, 0] (.inr ⟨W.heap.size, 0, 2, rfl, heap_lt e1, by
    intro j hj
    rw [Nat.zero_add, cell_of_heap e1]
    match j, hj with
    | 0, _ => rfl
    | 1, _ => rfl⟩) (by
    intro x hx
    simp only [List.mem_cons, List.not_mem_nil, or_false] at hx
    rcases hx with rfl | rfl <;> decide) (by decide) 1
  rw [sane5] at hc
  exact hc
theorem sane_calls (w : World) : Calls Try.prog 11 #[] w fun e w' => e = .returned (.bool true) ∧ Below w.heap.size w w' := by
  go_enter Try.func11, Try.ntmps11
  go_wp2_with (first | (have G_ := T8; clear G_; go_at_call 15; refine (size_calls T8.out.1).mono ?_; rintro e W_ ⟨rfl, hW⟩; subst hW; rw [show ((z5.dur.length : Nat) : Int) = 4 from rfl]) | (have G_ := T7; clear G_; go_at_call 19; refine (sync_calls T7.out.1).mono ?_; rintro e W8 ⟨rfl, pv8, hst⟩; rw [sane9.1] at hst; rw [sane9.2]; have T8 := Aside0.mk (And.intro hst.dk (T7.out.2.trans hst.bel)); clear hst) | (have G_ := T6; clear G_; go_at_call 17; refine (write_calls T6.out.1 (by decide) (by decide) 3 ⟨#[113]⟩).mono ?_; rintro e W7 ⟨rfl, pv7, hst⟩; rw [sane8.1] at hst; rw [sane8.2]; have T7 := Aside0.mk (And.intro hst.dk (T6.out.2.trans hst.bel)); clear hst) | (have G_ := T5; clear G_; go_at_call 20; refine (cut_calls T5.out.1 1).mono ?_; rintro e W6 ⟨rfl, pv6, hst⟩; rw [sane7.1] at hst; rw [sane7.2]; have T6 := Aside0.mk (And.intro hst.dk (T5.out.2.trans hst.bel)); clear hst) | (have G_ := T5; clear G_; go_at_call 13; refine (read_calls T5.out.1 0 4).mono ?_; rintro e W_ ⟨rfl, hW⟩; subst hW; rw [sane6.1, sane6.2]) | (have G_ := T4; clear G_; go_at_call 21; refine (crash_sane T4.out.1).mono ?_; rintro e W5 ⟨rfl, pv5, hst⟩; have T5 := Aside0.mk (And.intro hst.dk ((T4.out.2.alloc T4.out.2.size _).trans hst.bel)); clear hst) | (have G_ := T4; clear G_; go_at_call 16; refine (pending_calls T4.out.1).mono ?_; rintro e W_ ⟨rfl, hW⟩; subst hW; rw [show ((z2.pend.length : Nat) : Int) = 2 from rfl]) | (have G_ := T4; clear G_; go_at_call 13; refine (read_calls T4.out.1 0 4).mono ?_; rintro e W_ ⟨rfl, hW⟩; subst hW; rw [sane4.1, sane4.2]) | (have G_ := T3; clear G_; go_at_call 17; refine (write_calls T3.out.1 (by decide) (by decide) 3 ⟨#[122, 122]⟩).mono ?_; rintro e W4 ⟨rfl, pv4, hst⟩; rw [sane3.1] at hst; rw [sane3.2]; have T4 := Aside0.mk (And.intro hst.dk (T3.out.2.trans hst.bel)); clear hst) | (have G_ := T2; clear G_; go_at_call 17; refine (write_calls T2.out.1 (by decide) (by decide) 1 ⟨#[120, 121]⟩).mono ?_; rintro e W3 ⟨rfl, pv3, hst⟩; rw [sane2.1] at hst; rw [sane2.2]; have T3 := Aside0.mk (And.intro hst.dk (T2.out.2.trans hst.bel)); clear hst) | (have G_ := T1; clear G_; go_at_call 17; refine (write_calls T1.out.1 (by decide) (by decide) 0 ⟨#[97, 98]⟩).mono ?_; rintro e W2 ⟨rfl, pv2, hst⟩; rw [sane1.1] at hst; rw [sane1.2]; have T2 := Aside0.mk (And.intro hst.dk (T1.out.2.trans hst.bel)); clear hst) | (have G_ := T1; clear G_; go_at_call 12; refine (new_bad W1 0 (.inl (by omega))).mono ?_; rintro e W2 ⟨rfl, hW⟩; subst hW) | (go_at_call 12; refine (show Calls Try.prog 12 #[.int .i64 4] w _ from new_calls w 4 (by omega) (by omega)).mono ?_; rintro e W1 ⟨d, g1, g2, rfl, hdk, hb⟩; have T1 := Aside0.mk (And.intro (show Dk W1 w.heap.size d g1 g2 (.slice none 0 0) z0 from hdk) hb); clear hdk hb))
  go_returns
  exact ⟨rfl, T8.out.2⟩
end Go.Proofs.Ytmonlhgfgnfbdaa
