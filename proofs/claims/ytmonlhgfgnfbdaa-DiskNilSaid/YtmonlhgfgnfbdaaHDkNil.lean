/- The walk of the law DiskNil: it tells true. -/
import Derived.Test.YtmonlhgfgnfbdaaHDkSane
namespace Go.Proofs.Ytmonlhgfgnfbdaa
open Go.RowKit Go.Lib Go.Proofs.YtmonlhgfgnfbdaaW.PrintWords Go.Proofs.YtmonlhgfgnfbdaaW.PrintLast Go.Proofs.YtmonlhgfgnfbdaaW.PrintMore
set_option linter.unusedVariables false
set_option linter.unusedSimpArgs false
set_option maxHeartbeats 32000000
set_option maxRecDepth 100000
theorem disknil_calls (w : World) (o n : Int) (t : ByteArray) (A : Option Addr) (len c : Nat) (hc : len ≤ c) : Calls Try.prog 4 #[.int .i64 o, .int .i64 n, .string t, .slice A len c] w fun e w' => e = .returned (.bool true) ∧ Below w.heap.size w w' := by
  have e1 : (0 : Int) ≤ min (len : Int) 100 := by omega
  have e2 : min (len : Int) 100 ≤ (c : Int) := by omega
  have e3 : (min (len : Int) 100).toNat ≤ c := by omega
  go_enter Try.func4, Try.ntmps4
  go_wp2_with (first | (go_at_call 13; refine (read_nil _ o n).mono ?_; rintro e W_ ⟨rfl, hW⟩; subst hW) | (go_at_call 19; refine (sync_nil _).mono ?_; rintro e W_ ⟨rfl, hW⟩; subst hW) | (go_at_call 20; refine (cut_nil _ n).mono ?_; rintro e W_ ⟨rfl, hW⟩; subst hW) | (go_at_call 16; refine (pending_nil _).mono ?_; rintro e W_ ⟨rfl, hW⟩; subst hW) | (go_at_call 15; refine (size_nil _).mono ?_; rintro e W_ ⟨rfl, hW⟩; subst hW) | (go_at_call 21; refine (crash_nil _ _ n).mono ?_; rintro e W2 ⟨rfl, hb2⟩; have T2 := Aside0.mk (T1.out.trans (hb2.mono T1.out.size)); clear hb2) | (go_at_call 17; refine (write_nil _ o _).mono ?_; rintro e W_ ⟨rfl, hW⟩; subst hW) | (go_at_call 18; refine (cut_calls_ _ t 100).mono ?_; rintro e W_ ⟨rfl, hW⟩; subst hW) | (go_at_call 11; refine (sane_calls _).mono ?_; rintro e W1 ⟨rfl, hsn⟩; have T1 := Aside0.mk hsn; clear hsn))
  go_returns
  exact ⟨rfl, T2.out⟩
end Go.Proofs.Ytmonlhgfgnfbdaa
