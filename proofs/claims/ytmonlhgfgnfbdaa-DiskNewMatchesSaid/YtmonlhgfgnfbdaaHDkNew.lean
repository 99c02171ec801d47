/- The walk of the law DiskNewMatches: it tells true. -/
import Derived.Test.YtmonlhgfgnfbdaaHDkSane
namespace Go.Proofs.Ytmonlhgfgnfbdaa
open Go.RowKit Go.Lib Go.Proofs.YtmonlhgfgnfbdaaW.PrintWords Go.Proofs.YtmonlhgfgnfbdaaW.PrintLast Go.Proofs.YtmonlhgfgnfbdaaW.PrintMore
set_option linter.unusedVariables false
set_option linter.unusedSimpArgs false
set_option maxHeartbeats 32000000
set_option maxRecDepth 100000
theorem read_new (n p : Nat) (h : p < n) : readS ⟨false, 0, List.replicate n 0, List.replicate n 0, []⟩ p 1 = ⟨#[0]⟩ ∧ readE ⟨false, 0, List.replicate n 0, List.replicate n 0, []⟩ p 1 = 0 := by
  have hi : ins ⟨false, 0, List.replicate n 0, List.replicate n 0, []⟩ p 1 = true := by
    simp only [ins, Bool.and_eq_true, decide_eq_true_eq, List.length_replicate]
    omega
  unfold readS readE
  rw [hi]
  simp only [Bool.false_eq_true, if_false, if_true, and_true]
  rw [List.drop_replicate, List.take_replicate, Int.toNat_natCast, show min (1 : Int).toNat (n - p) = 1 by omega]
  rfl
theorem disknewmatches_calls (w : World) (n p : Int) (hn : Rng n) (hp : Rng p) : Calls Try.prog 3 #[.int .i64 n, .int .i64 p] w fun e w' => e = .returned (.bool true) ∧ Below w.heap.size w w' := by
  by_cases hb : n < 1 ∨ 4194304 < n
  · go_enter Try.func3, Try.ntmps3
    by_cases h1 : n < 1
    · have d1 : decide (n < 1) = true := decide_eq_true h1
      go_wp2_with (first | (go_at_call 12; refine (new_bad _ n hb).mono ?_; rintro e W2 ⟨rfl, hW⟩; subst hW) | (go_at_call 11; refine (sane_calls _).mono ?_; rintro e W1 ⟨rfl, hsn⟩; have T1 := Aside0.mk hsn; clear hsn))
      go_returns
      exact ⟨rfl, T1.out⟩
    · have d1 : decide (n < 1) = false := decide_eq_false h1
      have d2 : decide (n > 4194304) = true := decide_eq_true (by omega)
      go_wp2_with (first | (go_at_call 12; refine (new_bad _ n hb).mono ?_; rintro e W2 ⟨rfl, hW⟩; subst hW) | (go_at_call 11; refine (sane_calls _).mono ?_; rintro e W1 ⟨rfl, hsn⟩; have T1 := Aside0.mk hsn; clear hsn))
      go_returns
      exact ⟨rfl, T1.out⟩
  · obtain ⟨m, rfl⟩ : ∃ m : Nat, n = m := ⟨n.toNat, by omega⟩
    have d1 : decide ((m : Int) < 1) = false := decide_eq_false (by omega)
    have d2 : decide ((m : Int) > 4194304) = false := decide_eq_false (by omega)
    have hm1 : 1 ≤ m := by omega
    have hm2 : m ≤ 4194304 := by omega
    go_enter Try.func3, Try.ntmps3
    go_wp2_with (first | (have G_ := T2; clear G_; go_at_call 16; refine (pending_calls T2.out.1).mono ?_; rintro e W_ ⟨rfl, hW⟩; subst hW; dsimp only [List.length_nil]) | (have G_ := T2; clear G_; go_at_call 15; refine (size_calls T2.out.1).mono ?_; rintro e W_ ⟨rfl, hW⟩; subst hW; dsimp only; rw [List.length_replicate]) | (have G_ := T2; clear G_; go_at_call 13; refine (read_calls T2.out.1 (r : Int) 1).mono ?_; rintro e W_ ⟨rfl, hW⟩; subst hW; rw [(read_new m r hr).1, (read_new m r hr).2]) | (go_at_call 14; refine (pick_calls _ p m hp (by omega) (by omega)).mono ?_; rintro e W_ ⟨r, hr, rfl, hW⟩; subst hW) | (go_at_call 12; refine (new_calls _ m hm1 hm2).mono ?_; rintro e W2 ⟨d, g1, g2, rfl, hdk, hbb⟩; have T2 := Aside0.mk (And.intro hdk (T1.out.trans (hbb.mono T1.out.size))); clear hdk hbb) | (go_at_call 11; refine (sane_calls _).mono ?_; rintro e W1 ⟨rfl, hsn⟩; have T1 := Aside0.mk hsn; clear hsn))
    go_returns
    exact ⟨rfl, T2.out.2⟩
end Go.Proofs.Ytmonlhgfgnfbdaa
