/- The walk of the law DiskTwins: it tells true. -/
import Derived.Test.YtmonlhgfgnfbdaaHDkTwin
import Derived.Test.YtmonlhgfgnfbdaaHRegStep
namespace Go.Proofs.Ytmonlhgfgnfbdaa
open Go.RowKit Go.Lib Go.Proofs.YtmonlhgfgnfbdaaW.PrintWords Go.Proofs.YtmonlhgfgnfbdaaW.PrintLast Go.Proofs.YtmonlhgfgnfbdaaW.PrintMore
set_option linter.unusedVariables false
set_option linter.unusedSimpArgs false
set_option maxHeartbeats 64000000
set_option maxRecDepth 100000
theorem disktwins_calls (w : World) (z : Int) (A : Option Addr) (c : Nat) (l : List (Int × ByteArray × Bool)) (hz : Rng z) (hwp : WPs w A l) : Calls Try.prog 10 #[.int .i64 z, .slice A l.length c] w fun e w' => e = .returned (.bool true) ∧ Below w.heap.size w w' := by
  have HW := Aside0.mk hwp
  clear hwp
  go_enter Try.func10, Try.ntmps10
  go_wp2_with (first | (have G_ := T3; clear G_; go_at_call 12; refine (new_calls _ n hn1 hn2).mono ?_; rintro e W4 ⟨d3, a3, b3, rfl, hdk, hbb⟩; have T4 := Aside0.mk (And.intro hdk hbb); clear hdk hbb) | (have G_ := T2; clear G_; go_at_call 12; refine (new_calls _ n hn1 hn2).mono ?_; rintro e W3 ⟨d2, a2, b2, rfl, hdk, hbb⟩; have T3 := Aside0.mk (And.intro hdk hbb); clear hdk hbb) | (go_at_call 12; refine (new_calls _ n hn1 hn2).mono ?_; rintro e W2 ⟨d1, a1, b1, rfl, hdk, hbb⟩; have T2 := Aside0.mk (And.intro hdk hbb); clear hdk hbb) | (go_at_call 14; refine (pick_calls _ z 100 hz (by omega) (by omega)).mono ?_; rintro e W_ ⟨r, hr, rfl, hW⟩; subst hW; obtain ⟨n, hnr⟩ : ∃ n : Nat, n = r + 1 := ⟨_, rfl⟩; have hw : IntKind.i64.wrap (1 + (r : Int)) = (n : Int) := (by rw [IntKind.wrap_i64]; omega); have hn1 : 1 ≤ n := (by omega); have hn2 : n ≤ 4194304 := (by omega); have hn3 : n ≤ 100 := (by omega); clear hnr hr; have hmk := fun w => make_bytes n hn2 w) | (go_at_call 11; refine (sane_calls _).mono ?_; rintro e W1 ⟨rfl, hsn⟩; have T1 := Aside0.mk hsn; clear hsn))
  have S0 := Aside0.mk (And.intro (Tw.start T1.out T2.out.1 T2.out.2 T3.out.1 T3.out.2 T4.out.1 T4.out.2) (Calm.new n))
  clear T1 T2 T3 T4 hw hmk
  go_loopg [12] 31 (fun gk v12 w' => ∃ (i : Nat) (pc pd pa : Value) (s t : DD), v12 = .int .i64 i ∧ Aside0 (i ≤ 30 ∧ i ≤ l.length ∧ gk = 30 - i + 1 ∧ Tw w w' ⟨d1, a1, b1⟩ pc s ⟨d2, a2, b2⟩ pd t ⟨d3, a3, b3⟩ pa s ∧ Calm s n i ∧ Calm t n i))
  case atStart => exact ⟨0, _, _, _, _, _, rfl, ⟨by omega, by omega, by omega, S0.out.1, S0.out.2, S0.out.2⟩⟩
  case round =>
    clear S0
    obtain ⟨i, pc, pd, pa, s, t, rfl, HI⟩ := hrel
    by_cases h1 : i < l.length
    · by_cases h2 : i < 30
      · obtain ⟨hrg, bb, oo, hA, c0, c1, c2⟩ := (HW.out.below HI.out.2.2.2.1.bel) i h1
        subst hA
        obtain ⟨⟨po, ps, pb⟩, hx⟩ : ∃ x, l[i] = x := ⟨_, rfl⟩
        rw [hx] at hrg c0 c1 c2
        dsimp only at hrg c0 c1 c2
        clear hx
        have dd1 : decide ((i : Int) < (l.length : Int)) = true := decide_eq_true (by omega)
        have HTW := Aside0.mk HI.out.2.2.2.1
        have HC := Aside0.mk HI.out.2.2.2.2.1
        have HD := Aside0.mk HI.out.2.2.2.2.2
        have dd2 : decide ((i : Int) < 30) = true := decide_eq_true (by omega)
        go_upto_region 12 with (first | (go_at_call 22; refine (fits_calls _ po ps pb n hrg (by omega)).mono ?_; rintro e Wf ⟨k, u, hku, rfl, hbf⟩; have TF := Aside0.mk ((HTW.out.below hbf).below (below_alloc (Below.refl _ Wf) (.cells #[.int .i64 k, .string u, .bool pb] 42))); have HB := Aside0.mk (heap_alloc_new Wf (.cells #[.int .i64 k, .string u, .bool pb] 42)); clear hbf c0 c1 c2))
        generalize Wf.alloc (.cells #[.int .i64 k, .string u, .bool pb] 42) = WB at TF HB ⊢
        generalize Wf.heap.size = nb at HB ⊢
        by_cases hod : i % 2 = 1
        · have eo : decide ((i : Int) % 2 = 1) = true := decide_eq_true (by omega)
          have c0 := cell_of_heap HB.out 0
          have c1 := cell_of_heap HB.out 1
          have c2 := cell_of_heap HB.out 2
          by_cases hk7 : k % 7 = 3
          · have ek : decide ((k : Int) % 7 = 3) = true := decide_eq_true (by omega)
            cases pb
            · go_wp2_with (first | (have G_ := TW; clear G_; go_at_call 21; refine (crash_empty (show Dk _ w.heap.size d2 a2 b2 _ _ from TW.out.1.a) TW.out.2 1).mono ?_; rintro e Wc ⟨rfl, pv3, hst⟩; have TC := Aside0.mk (And.intro (TW.out.1.step hst) (TW.out.2.settled.mono (Nat.zero_le (i + 1)))); clear hst) | (go_at_call 17; refine (write_calls (show Dk _ w.heap.size d2 a2 b2 _ t from TF.out.rot.a) (by rw [HD.out.left]; omega) (by have := HD.out.pend; omega) (k : Int) u).mono ?_; rintro e Ww ⟨rfl, pv1, hst⟩; have hbx := TF.out.rot.box hst HB.out; have hcw := HD.out.write k u hku; have TW := Aside0.mk (And.intro (TF.out.rot.step hst) hcw.2.2); rw [hcw.1]; clear hst hcw c0 c1 c2; have c0 := cell_of_heap hbx 0; have c1 := cell_of_heap hbx 1; have c2 := cell_of_heap hbx 2; have HB2 := Aside0.mk hbx; clear hbx))
              go_roundg (30 - i)
              case rel => exact ⟨i + 1, _, _, _, _, _, by simp <;> (first | omega | (unfold wrap64; omega)), ⟨by omega, by omega, by omega, TC.out.1.rot.rot, HC.out.mono (by omega), TC.out.2⟩⟩
              case measure => have := HI.out.2.2.1; omega
            · go_wp2_with (first | (have G_ := TS; clear G_; go_at_call 21; refine (crash_empty (show Dk _ w.heap.size d2 a2 b2 _ _ from TS.out.1.a) TS.out.2 1).mono ?_; rintro e Wc ⟨rfl, pv3, hst⟩; have TC := Aside0.mk (And.intro (TS.out.1.step hst) (TS.out.2.settled.mono (Nat.zero_le (i + 1)))); clear hst) | (have G_ := TW; clear G_; go_at_call 19; refine (sync_calls (show Dk _ w.heap.size d2 a2 b2 _ _ from TW.out.1.a)).mono ?_; rintro e Ws ⟨rfl, pv2, hst⟩; have hbx := TW.out.1.box hst HB2.out; have hcs := TW.out.2.sync; have TS := Aside0.mk (And.intro (TW.out.1.step hst) hcs.2.2); rw [hcs.1]; clear hst hcs c0 c1 c2; have c0 := cell_of_heap hbx 0; have c1 := cell_of_heap hbx 1; have c2 := cell_of_heap hbx 2; clear hbx) | (go_at_call 17; refine (write_calls (show Dk _ w.heap.size d2 a2 b2 _ t from TF.out.rot.a) (by rw [HD.out.left]; omega) (by have := HD.out.pend; omega) (k : Int) u).mono ?_; rintro e Ww ⟨rfl, pv1, hst⟩; have hbx := TF.out.rot.box hst HB.out; have hcw := HD.out.write k u hku; have TW := Aside0.mk (And.intro (TF.out.rot.step hst) hcw.2.2); rw [hcw.1]; clear hst hcw c0 c1 c2; have c0 := cell_of_heap hbx 0; have c1 := cell_of_heap hbx 1; have c2 := cell_of_heap hbx 2; have HB2 := Aside0.mk hbx; clear hbx))
              go_roundg (30 - i)
              case rel => exact ⟨i + 1, _, _, _, _, _, by simp <;> (first | omega | (unfold wrap64; omega)), ⟨by omega, by omega, by omega, TC.out.1.rot.rot, HC.out.mono (by omega), TC.out.2⟩⟩
              case measure => have := HI.out.2.2.1; omega
          · have ek : decide ((k : Int) % 7 = 3) = false := decide_eq_false (by omega)
            cases pb
            · go_wp2_with (first | (go_at_call 17; refine (write_calls (show Dk _ w.heap.size d2 a2 b2 _ t from TF.out.rot.a) (by rw [HD.out.left]; omega) (by have := HD.out.pend; omega) (k : Int) u).mono ?_; rintro e Ww ⟨rfl, pv1, hst⟩; have hbx := TF.out.rot.box hst HB.out; have hcw := HD.out.write k u hku; have TW := Aside0.mk (And.intro (TF.out.rot.step hst) hcw.2.2); rw [hcw.1]; clear hst hcw c0 c1 c2; have c0 := cell_of_heap hbx 0; have c1 := cell_of_heap hbx 1; have c2 := cell_of_heap hbx 2; have HB2 := Aside0.mk hbx; clear hbx))
              go_roundg (30 - i)
              case rel => exact ⟨i + 1, _, _, _, _, _, by simp <;> (first | omega | (unfold wrap64; omega)), ⟨by omega, by omega, by omega, TW.out.1.rot.rot, HC.out.mono (by omega), TW.out.2⟩⟩
              case measure => have := HI.out.2.2.1; omega
            · go_wp2_with (first | (have G_ := TW; clear G_; go_at_call 19; refine (sync_calls (show Dk _ w.heap.size d2 a2 b2 _ _ from TW.out.1.a)).mono ?_; rintro e Ws ⟨rfl, pv2, hst⟩; have hbx := TW.out.1.box hst HB2.out; have hcs := TW.out.2.sync; have TS := Aside0.mk (And.intro (TW.out.1.step hst) hcs.2.2); rw [hcs.1]; clear hst hcs c0 c1 c2; have c0 := cell_of_heap hbx 0; have c1 := cell_of_heap hbx 1; have c2 := cell_of_heap hbx 2; clear hbx) | (go_at_call 17; refine (write_calls (show Dk _ w.heap.size d2 a2 b2 _ t from TF.out.rot.a) (by rw [HD.out.left]; omega) (by have := HD.out.pend; omega) (k : Int) u).mono ?_; rintro e Ww ⟨rfl, pv1, hst⟩; have hbx := TF.out.rot.box hst HB.out; have hcw := HD.out.write k u hku; have TW := Aside0.mk (And.intro (TF.out.rot.step hst) hcw.2.2); rw [hcw.1]; clear hst hcw c0 c1 c2; have c0 := cell_of_heap hbx 0; have c1 := cell_of_heap hbx 1; have c2 := cell_of_heap hbx 2; have HB2 := Aside0.mk hbx; clear hbx))
              go_roundg (30 - i)
              case rel => exact ⟨i + 1, _, _, _, _, _, by simp <;> (first | omega | (unfold wrap64; omega)), ⟨by omega, by omega, by omega, TS.out.1.rot.rot, HC.out.mono (by omega), TS.out.2⟩⟩
              case measure => have := HI.out.2.2.1; omega
        · have eo : decide ((i : Int) % 2 = 1) = false := decide_eq_false (by omega)
          cases pb
          · go_upto_region 15 with fail
            have TD := Aside0.mk (TF.out.below (below_drew (Below.refl _ WB)))
            have HBD : Aside0 (WB.drew.heap[nb]? = some (.cells #[.int .i64 k, .string u, .bool false] 42 (0, 0))) := Aside0.mk HB.out
            refine wp_region_held_drew (S := (fun Wq => Wq.cell? ⟨nb, 0, none⟩ = some (.int .i64 k) ∧ Wq.cell? ⟨nb, 1, none⟩ = some (.string u) ∧ Wq.cell? ⟨nb, 2, none⟩ = some (.bool false))) (by kernel_rfl) (by (try dsimp only); first | exact ⟨cell_of_heap HB5.out 0, cell_of_heap HB5.out 1, cell_of_heap HB5.out 2⟩ | exact ⟨cell_of_heap HB4.out 0, cell_of_heap HB4.out 1, cell_of_heap HB4.out 2⟩ | exact ⟨cell_of_heap HB3.out 0, cell_of_heap HB3.out 1, cell_of_heap HB3.out 2⟩ | exact ⟨cell_of_heap HB2.out 0, cell_of_heap HB2.out 1, cell_of_heap HB2.out 2⟩ | exact ⟨cell_of_heap HBD.out 0, cell_of_heap HBD.out 1, cell_of_heap HBD.out 2⟩) (fun hHeld => ?_)
            first | refine reg_tk 0 ?_ | refine reg_sk 0 ?_ | fail
            (try simp only [Act.put, List.setIfInBounds_toArray, List.set_cons_zero, List.set_cons_succ])
            first | refine reg_tk 1 ?_ | refine reg_sk 1 ?_ | fail
            (try simp only [Act.put, List.setIfInBounds_toArray, List.set_cons_zero, List.set_cons_succ])
            first | refine reg_tk 2 ?_ | refine reg_sk 2 ?_ | fail
            (try simp only [Act.put, List.setIfInBounds_toArray, List.set_cons_zero, List.set_cons_succ])
            first | refine reg_tk 3 ?_ | refine reg_sk 3 ?_ | fail
            (try simp only [Act.put, List.setIfInBounds_toArray, List.set_cons_zero, List.set_cons_succ])
            first | refine reg_tk 4 ?_ | refine reg_sk 4 ?_ | fail
            (try simp only [Act.put, List.setIfInBounds_toArray, List.set_cons_zero, List.set_cons_succ])
            first | refine reg_tk 6 ?_ | refine reg_sk 6 ?_ | fail
            (try simp only [Act.put, List.setIfInBounds_toArray, List.set_cons_zero, List.set_cons_succ])
            first | refine reg_tk 7 ?_ | refine reg_sk 7 ?_ | fail
            (try simp only [Act.put, List.setIfInBounds_toArray, List.set_cons_zero, List.set_cons_succ])
            first | refine reg_tk 8 ?_ | refine reg_sk 8 ?_ | fail
            (try simp only [Act.put, List.setIfInBounds_toArray, List.set_cons_zero, List.set_cons_succ])
            first | refine reg_tk 9 ?_ | refine reg_sk 9 ?_ | fail
            (try simp only [Act.put, List.setIfInBounds_toArray, List.set_cons_zero, List.set_cons_succ])
            first | refine reg_tk 10 ?_ | refine reg_sk 10 ?_ | fail
            (try simp only [Act.put, List.setIfInBounds_toArray, List.set_cons_zero, List.set_cons_succ])
            first | refine reg_sk 5 ?_ | (refine reg_one 5 (fun KK_ hKK_ => ?_); go_simp; (go_at_call 17; refine (write_calls (show Dk _ w.heap.size d1 a1 b1 _ s from TD.out.a) (by rw [HC.out.left]; omega) (by have := HC.out.pend; omega) (k : Int) u).mono ?_; rintro e Wn ⟨rfl, pv1, hst⟩; rw [(HC.out.write k u hku).1]; have HB2 := Aside0.mk (TD.out.box hst HBD.out); have TA := Aside0.mk (TD.out.step hst); clear hst); refine hKK_.out _ _ (by (try dsimp only); first | exact ⟨cell_of_heap HB5.out 0, cell_of_heap HB5.out 1, cell_of_heap HB5.out 2⟩ | exact ⟨cell_of_heap HB4.out 0, cell_of_heap HB4.out 1, cell_of_heap HB4.out 2⟩ | exact ⟨cell_of_heap HB3.out 0, cell_of_heap HB3.out 1, cell_of_heap HB3.out 2⟩ | exact ⟨cell_of_heap HB2.out 0, cell_of_heap HB2.out 1, cell_of_heap HB2.out 2⟩ | exact ⟨cell_of_heap HBD.out 0, cell_of_heap HBD.out 1, cell_of_heap HBD.out 2⟩) (fun hHeld => ?_); clear hKK_ KK_) | fail
            (try simp only [Act.put, List.setIfInBounds_toArray, List.set_cons_zero, List.set_cons_succ])
            first | refine reg_sk 11 ?_ | (refine reg_one 11 (fun KK_ hKK_ => ?_); go_simp; (go_at_call 17; refine (write_calls (show Dk _ w.heap.size d3 a3 b3 _ s from TA.out.rot.rot.a) (by rw [HC.out.left]; omega) (by have := HC.out.pend; omega) (k : Int) u).mono ?_; rintro e Wn ⟨rfl, pv1, hst⟩; rw [(HC.out.write k u hku).1]; have HB3 := Aside0.mk (TA.out.rot.rot.box hst HB2.out); have TB := Aside0.mk (TA.out.rot.rot.step hst); clear hst); refine hKK_.out _ _ (by (try dsimp only); first | exact ⟨cell_of_heap HB5.out 0, cell_of_heap HB5.out 1, cell_of_heap HB5.out 2⟩ | exact ⟨cell_of_heap HB4.out 0, cell_of_heap HB4.out 1, cell_of_heap HB4.out 2⟩ | exact ⟨cell_of_heap HB3.out 0, cell_of_heap HB3.out 1, cell_of_heap HB3.out 2⟩ | exact ⟨cell_of_heap HB2.out 0, cell_of_heap HB2.out 1, cell_of_heap HB2.out 2⟩ | exact ⟨cell_of_heap HBD.out 0, cell_of_heap HBD.out 1, cell_of_heap HBD.out 2⟩) (fun hHeld => ?_); clear hKK_ KK_) | fail
            (try simp only [Act.put, List.setIfInBounds_toArray, List.set_cons_zero, List.set_cons_succ])
            first | refine reg_tk 12 ?_ | refine reg_sk 12 ?_ | fail
            (try simp only [Act.put, List.setIfInBounds_toArray, List.set_cons_zero, List.set_cons_succ])
            first | refine reg_tk 13 ?_ | refine reg_sk 13 ?_ | fail
            (try simp only [Act.put, List.setIfInBounds_toArray, List.set_cons_zero, List.set_cons_succ])
            first | refine reg_tk 14 ?_ | refine reg_sk 14 ?_ | fail
            (try simp only [Act.put, List.setIfInBounds_toArray, List.set_cons_zero, List.set_cons_succ])
            first | refine reg_tk 15 ?_ | refine reg_sk 15 ?_ | fail
            (try simp only [Act.put, List.setIfInBounds_toArray, List.set_cons_zero, List.set_cons_succ])
            first | refine reg_tk 16 ?_ | refine reg_sk 16 ?_ | fail
            (try simp only [Act.put, List.setIfInBounds_toArray, List.set_cons_zero, List.set_cons_succ])
            first | refine reg_tk 17 ?_ | refine reg_sk 17 ?_ | fail
            (try simp only [Act.put, List.setIfInBounds_toArray, List.set_cons_zero, List.set_cons_succ])
            first | refine reg_tk 19 ?_ | refine reg_sk 19 ?_ | fail
            (try simp only [Act.put, List.setIfInBounds_toArray, List.set_cons_zero, List.set_cons_succ])
            first | refine reg_sk 18 ?_ | (refine reg_one 18 (fun KK_ hKK_ => ?_); go_simp; (go_at_call 19; refine (sync_calls (show Dk _ w.heap.size d1 a1 b1 _ _ from TB.out.rot.a)).mono ?_; rintro e Wn ⟨rfl, pv1, hst⟩; rw [(HC.out.write k u hku).2.2.sync.1]; have HB4 := Aside0.mk (TB.out.rot.box hst HB3.out); have TC := Aside0.mk (TB.out.rot.step hst); clear hst); refine hKK_.out _ _ (by (try dsimp only); first | exact ⟨cell_of_heap HB5.out 0, cell_of_heap HB5.out 1, cell_of_heap HB5.out 2⟩ | exact ⟨cell_of_heap HB4.out 0, cell_of_heap HB4.out 1, cell_of_heap HB4.out 2⟩ | exact ⟨cell_of_heap HB3.out 0, cell_of_heap HB3.out 1, cell_of_heap HB3.out 2⟩ | exact ⟨cell_of_heap HB2.out 0, cell_of_heap HB2.out 1, cell_of_heap HB2.out 2⟩ | exact ⟨cell_of_heap HBD.out 0, cell_of_heap HBD.out 1, cell_of_heap HBD.out 2⟩) (fun hHeld => ?_); clear hKK_ KK_) | fail
            (try simp only [Act.put, List.setIfInBounds_toArray, List.set_cons_zero, List.set_cons_succ])
            first | refine reg_sk 20 ?_ | (refine reg_one 20 (fun KK_ hKK_ => ?_); go_simp; (go_at_call 19; refine (sync_calls (show Dk _ w.heap.size d3 a3 b3 _ _ from TC.out.rot.rot.a)).mono ?_; rintro e Wn ⟨rfl, pv1, hst⟩; rw [(HC.out.write k u hku).2.2.sync.1]; have HB5 := Aside0.mk (TC.out.rot.rot.box hst HB4.out); have TE := Aside0.mk (TC.out.rot.rot.step hst); clear hst); refine hKK_.out _ _ (by (try dsimp only); first | exact ⟨cell_of_heap HB5.out 0, cell_of_heap HB5.out 1, cell_of_heap HB5.out 2⟩ | exact ⟨cell_of_heap HB4.out 0, cell_of_heap HB4.out 1, cell_of_heap HB4.out 2⟩ | exact ⟨cell_of_heap HB3.out 0, cell_of_heap HB3.out 1, cell_of_heap HB3.out 2⟩ | exact ⟨cell_of_heap HB2.out 0, cell_of_heap HB2.out 1, cell_of_heap HB2.out 2⟩ | exact ⟨cell_of_heap HBD.out 0, cell_of_heap HBD.out 1, cell_of_heap HBD.out 2⟩) (fun hHeld => ?_); clear hKK_ KK_) | fail
            (try simp only [Act.put, List.setIfInBounds_toArray, List.set_cons_zero, List.set_cons_succ])
            first | refine reg_tk 21 ?_ | refine reg_sk 21 ?_ | fail
            (try simp only [Act.put, List.setIfInBounds_toArray, List.set_cons_zero, List.set_cons_succ])
            first | refine reg_tk 22 ?_ | refine reg_sk 22 ?_ | fail
            (try simp only [Act.put, List.setIfInBounds_toArray, List.set_cons_zero, List.set_cons_succ])
            first | refine reg_tk 23 ?_ | refine reg_sk 23 ?_ | fail
            (try simp only [Act.put, List.setIfInBounds_toArray, List.set_cons_zero, List.set_cons_succ])
            refine wpAnyH_done (by kernel_rfl) ?_ _
            go_wp2
            go_roundg (30 - i)
            case rel => exact ⟨i + 1, _, _, _, _, _, by simp <;> (first | omega | (unfold wrap64; omega)), ⟨by omega, by omega, by omega, TB.out.rot, (HC.out.write k u hku).2.2, HD.out.mono (by omega)⟩⟩
            case measure => have := HI.out.2.2.1; omega
          · go_upto_region 15 with fail
            have TD := Aside0.mk (TF.out.below (below_drew (Below.refl _ WB)))
            have HBD : Aside0 (WB.drew.heap[nb]? = some (.cells #[.int .i64 k, .string u, .bool true] 42 (0, 0))) := Aside0.mk HB.out
            refine wp_region_held_drew (S := (fun Wq => Wq.cell? ⟨nb, 0, none⟩ = some (.int .i64 k) ∧ Wq.cell? ⟨nb, 1, none⟩ = some (.string u) ∧ Wq.cell? ⟨nb, 2, none⟩ = some (.bool true))) (by kernel_rfl) (by (try dsimp only); first | exact ⟨cell_of_heap HB5.out 0, cell_of_heap HB5.out 1, cell_of_heap HB5.out 2⟩ | exact ⟨cell_of_heap HB4.out 0, cell_of_heap HB4.out 1, cell_of_heap HB4.out 2⟩ | exact ⟨cell_of_heap HB3.out 0, cell_of_heap HB3.out 1, cell_of_heap HB3.out 2⟩ | exact ⟨cell_of_heap HB2.out 0, cell_of_heap HB2.out 1, cell_of_heap HB2.out 2⟩ | exact ⟨cell_of_heap HBD.out 0, cell_of_heap HBD.out 1, cell_of_heap HBD.out 2⟩) (fun hHeld => ?_)
            first | refine reg_tk 0 ?_ | refine reg_sk 0 ?_ | fail
            (try simp only [Act.put, List.setIfInBounds_toArray, List.set_cons_zero, List.set_cons_succ])
            first | refine reg_tk 1 ?_ | refine reg_sk 1 ?_ | fail
            (try simp only [Act.put, List.setIfInBounds_toArray, List.set_cons_zero, List.set_cons_succ])
            first | refine reg_tk 2 ?_ | refine reg_sk 2 ?_ | fail
            (try simp only [Act.put, List.setIfInBounds_toArray, List.set_cons_zero, List.set_cons_succ])
            first | refine reg_tk 3 ?_ | refine reg_sk 3 ?_ | fail
            (try simp only [Act.put, List.setIfInBounds_toArray, List.set_cons_zero, List.set_cons_succ])
            first | refine reg_tk 4 ?_ | refine reg_sk 4 ?_ | fail
            (try simp only [Act.put, List.setIfInBounds_toArray, List.set_cons_zero, List.set_cons_succ])
            first | refine reg_tk 6 ?_ | refine reg_sk 6 ?_ | fail
            (try simp only [Act.put, List.setIfInBounds_toArray, List.set_cons_zero, List.set_cons_succ])
            first | refine reg_tk 7 ?_ | refine reg_sk 7 ?_ | fail
            (try simp only [Act.put, List.setIfInBounds_toArray, List.set_cons_zero, List.set_cons_succ])
            first | refine reg_tk 8 ?_ | refine reg_sk 8 ?_ | fail
            (try simp only [Act.put, List.setIfInBounds_toArray, List.set_cons_zero, List.set_cons_succ])
            first | refine reg_tk 9 ?_ | refine reg_sk 9 ?_ | fail
            (try simp only [Act.put, List.setIfInBounds_toArray, List.set_cons_zero, List.set_cons_succ])
            first | refine reg_tk 10 ?_ | refine reg_sk 10 ?_ | fail
            (try simp only [Act.put, List.setIfInBounds_toArray, List.set_cons_zero, List.set_cons_succ])
            first | refine reg_sk 5 ?_ | (refine reg_one 5 (fun KK_ hKK_ => ?_); go_simp; (go_at_call 17; refine (write_calls (show Dk _ w.heap.size d1 a1 b1 _ s from TD.out.a) (by rw [HC.out.left]; omega) (by have := HC.out.pend; omega) (k : Int) u).mono ?_; rintro e Wn ⟨rfl, pv1, hst⟩; rw [(HC.out.write k u hku).1]; have HB2 := Aside0.mk (TD.out.box hst HBD.out); have TA := Aside0.mk (TD.out.step hst); clear hst); refine hKK_.out _ _ (by (try dsimp only); first | exact ⟨cell_of_heap HB5.out 0, cell_of_heap HB5.out 1, cell_of_heap HB5.out 2⟩ | exact ⟨cell_of_heap HB4.out 0, cell_of_heap HB4.out 1, cell_of_heap HB4.out 2⟩ | exact ⟨cell_of_heap HB3.out 0, cell_of_heap HB3.out 1, cell_of_heap HB3.out 2⟩ | exact ⟨cell_of_heap HB2.out 0, cell_of_heap HB2.out 1, cell_of_heap HB2.out 2⟩ | exact ⟨cell_of_heap HBD.out 0, cell_of_heap HBD.out 1, cell_of_heap HBD.out 2⟩) (fun hHeld => ?_); clear hKK_ KK_) | fail
            (try simp only [Act.put, List.setIfInBounds_toArray, List.set_cons_zero, List.set_cons_succ])
            first | refine reg_sk 11 ?_ | (refine reg_one 11 (fun KK_ hKK_ => ?_); go_simp; (go_at_call 17; refine (write_calls (show Dk _ w.heap.size d3 a3 b3 _ s from TA.out.rot.rot.a) (by rw [HC.out.left]; omega) (by have := HC.out.pend; omega) (k : Int) u).mono ?_; rintro e Wn ⟨rfl, pv1, hst⟩; rw [(HC.out.write k u hku).1]; have HB3 := Aside0.mk (TA.out.rot.rot.box hst HB2.out); have TB := Aside0.mk (TA.out.rot.rot.step hst); clear hst); refine hKK_.out _ _ (by (try dsimp only); first | exact ⟨cell_of_heap HB5.out 0, cell_of_heap HB5.out 1, cell_of_heap HB5.out 2⟩ | exact ⟨cell_of_heap HB4.out 0, cell_of_heap HB4.out 1, cell_of_heap HB4.out 2⟩ | exact ⟨cell_of_heap HB3.out 0, cell_of_heap HB3.out 1, cell_of_heap HB3.out 2⟩ | exact ⟨cell_of_heap HB2.out 0, cell_of_heap HB2.out 1, cell_of_heap HB2.out 2⟩ | exact ⟨cell_of_heap HBD.out 0, cell_of_heap HBD.out 1, cell_of_heap HBD.out 2⟩) (fun hHeld => ?_); clear hKK_ KK_) | fail
            (try simp only [Act.put, List.setIfInBounds_toArray, List.set_cons_zero, List.set_cons_succ])
            first | refine reg_tk 12 ?_ | refine reg_sk 12 ?_ | fail
            (try simp only [Act.put, List.setIfInBounds_toArray, List.set_cons_zero, List.set_cons_succ])
            first | refine reg_tk 13 ?_ | refine reg_sk 13 ?_ | fail
            (try simp only [Act.put, List.setIfInBounds_toArray, List.set_cons_zero, List.set_cons_succ])
            first | refine reg_tk 14 ?_ | refine reg_sk 14 ?_ | fail
            (try simp only [Act.put, List.setIfInBounds_toArray, List.set_cons_zero, List.set_cons_succ])
            first | refine reg_tk 15 ?_ | refine reg_sk 15 ?_ | fail
            (try simp only [Act.put, List.setIfInBounds_toArray, List.set_cons_zero, List.set_cons_succ])
            first | refine reg_tk 16 ?_ | refine reg_sk 16 ?_ | fail
            (try simp only [Act.put, List.setIfInBounds_toArray, List.set_cons_zero, List.set_cons_succ])
            first | refine reg_tk 17 ?_ | refine reg_sk 17 ?_ | fail
            (try simp only [Act.put, List.setIfInBounds_toArray, List.set_cons_zero, List.set_cons_succ])
            first | refine reg_tk 19 ?_ | refine reg_sk 19 ?_ | fail
            (try simp only [Act.put, List.setIfInBounds_toArray, List.set_cons_zero, List.set_cons_succ])
            first | refine reg_sk 18 ?_ | (refine reg_one 18 (fun KK_ hKK_ => ?_); go_simp; (go_at_call 19; refine (sync_calls (show Dk _ w.heap.size d1 a1 b1 _ _ from TB.out.rot.a)).mono ?_; rintro e Wn ⟨rfl, pv1, hst⟩; rw [(HC.out.write k u hku).2.2.sync.1]; have HB4 := Aside0.mk (TB.out.rot.box hst HB3.out); have TC := Aside0.mk (TB.out.rot.step hst); clear hst); refine hKK_.out _ _ (by (try dsimp only); first | exact ⟨cell_of_heap HB5.out 0, cell_of_heap HB5.out 1, cell_of_heap HB5.out 2⟩ | exact ⟨cell_of_heap HB4.out 0, cell_of_heap HB4.out 1, cell_of_heap HB4.out 2⟩ | exact ⟨cell_of_heap HB3.out 0, cell_of_heap HB3.out 1, cell_of_heap HB3.out 2⟩ | exact ⟨cell_of_heap HB2.out 0, cell_of_heap HB2.out 1, cell_of_heap HB2.out 2⟩ | exact ⟨cell_of_heap HBD.out 0, cell_of_heap HBD.out 1, cell_of_heap HBD.out 2⟩) (fun hHeld => ?_); clear hKK_ KK_) | fail
            (try simp only [Act.put, List.setIfInBounds_toArray, List.set_cons_zero, List.set_cons_succ])
            first | refine reg_sk 20 ?_ | (refine reg_one 20 (fun KK_ hKK_ => ?_); go_simp; (go_at_call 19; refine (sync_calls (show Dk _ w.heap.size d3 a3 b3 _ _ from TC.out.rot.rot.a)).mono ?_; rintro e Wn ⟨rfl, pv1, hst⟩; rw [(HC.out.write k u hku).2.2.sync.1]; have HB5 := Aside0.mk (TC.out.rot.rot.box hst HB4.out); have TE := Aside0.mk (TC.out.rot.rot.step hst); clear hst); refine hKK_.out _ _ (by (try dsimp only); first | exact ⟨cell_of_heap HB5.out 0, cell_of_heap HB5.out 1, cell_of_heap HB5.out 2⟩ | exact ⟨cell_of_heap HB4.out 0, cell_of_heap HB4.out 1, cell_of_heap HB4.out 2⟩ | exact ⟨cell_of_heap HB3.out 0, cell_of_heap HB3.out 1, cell_of_heap HB3.out 2⟩ | exact ⟨cell_of_heap HB2.out 0, cell_of_heap HB2.out 1, cell_of_heap HB2.out 2⟩ | exact ⟨cell_of_heap HBD.out 0, cell_of_heap HBD.out 1, cell_of_heap HBD.out 2⟩) (fun hHeld => ?_); clear hKK_ KK_) | fail
            (try simp only [Act.put, List.setIfInBounds_toArray, List.set_cons_zero, List.set_cons_succ])
            first | refine reg_tk 21 ?_ | refine reg_sk 21 ?_ | fail
            (try simp only [Act.put, List.setIfInBounds_toArray, List.set_cons_zero, List.set_cons_succ])
            first | refine reg_tk 22 ?_ | refine reg_sk 22 ?_ | fail
            (try simp only [Act.put, List.setIfInBounds_toArray, List.set_cons_zero, List.set_cons_succ])
            first | refine reg_tk 23 ?_ | refine reg_sk 23 ?_ | fail
            (try simp only [Act.put, List.setIfInBounds_toArray, List.set_cons_zero, List.set_cons_succ])
            refine wpAnyH_done (by kernel_rfl) ?_ _
            go_wp2
            go_roundg (30 - i)
            case rel => exact ⟨i + 1, _, _, _, _, _, by simp <;> (first | omega | (unfold wrap64; omega)), ⟨by omega, by omega, by omega, TE.out.rot, (HC.out.write k u hku).2.2.sync.2.2, HD.out.mono (by omega)⟩⟩
            case measure => have := HI.out.2.2.1; omega
      · obtain rfl : i = 30 := by have := HI.out.1; omega
        have dd1 : decide ((30 : Int) < (l.length : Int)) = true := decide_eq_true (by omega)
        have HTW := Aside0.mk HI.out.2.2.2.1
        have HC := Aside0.mk HI.out.2.2.2.2.1
        go_wp2_with (first | (have G_ := M2; clear G_; go_at_call 16; refine (pending_calls (show Dk _ w.heap.size d3 a3 b3 _ s from HTW.out.c)).mono ?_; rintro e W_ ⟨rfl, hW⟩; subst hW) | (go_at_call 16; refine (pending_calls (show Dk _ w.heap.size d1 a1 b1 _ s from HTW.out.a)).mono ?_; rintro e W_ ⟨rfl, hW⟩; subst hW; have M2 := Aside0.mk trivial) | (have G_ := M1; clear G_; go_at_call 13; refine (read_calls (show Dk _ w.heap.size d3 a3 b3 _ s from HTW.out.c) 0 (n : Int)).mono ?_; rintro e W_ ⟨rfl, hW⟩; subst hW; rw [HC.out.read.1, HC.out.read.2]) | (go_at_call 13; refine (read_calls (show Dk _ w.heap.size d1 a1 b1 _ s from HTW.out.a) 0 (n : Int)).mono ?_; rintro e W_ ⟨rfl, hW⟩; subst hW; have M1 := Aside0.mk trivial; rw [HC.out.read.1, HC.out.read.2]))
        go_returns
        exact ⟨rfl, HTW.out.bel⟩
    · have dd1 : decide ((i : Int) < (l.length : Int)) = false := decide_eq_false (by omega)
      have HTW := Aside0.mk HI.out.2.2.2.1
      have HC := Aside0.mk HI.out.2.2.2.2.1
      go_wp2_with (first | (have G_ := M2; clear G_; go_at_call 16; refine (pending_calls (show Dk _ w.heap.size d3 a3 b3 _ s from HTW.out.c)).mono ?_; rintro e W_ ⟨rfl, hW⟩; subst hW) | (go_at_call 16; refine (pending_calls (show Dk _ w.heap.size d1 a1 b1 _ s from HTW.out.a)).mono ?_; rintro e W_ ⟨rfl, hW⟩; subst hW; have M2 := Aside0.mk trivial) | (have G_ := M1; clear G_; go_at_call 13; refine (read_calls (show Dk _ w.heap.size d3 a3 b3 _ s from HTW.out.c) 0 (n : Int)).mono ?_; rintro e W_ ⟨rfl, hW⟩; subst hW; rw [HC.out.read.1, HC.out.read.2]) | (go_at_call 13; refine (read_calls (show Dk _ w.heap.size d1 a1 b1 _ s from HTW.out.a) 0 (n : Int)).mono ?_; rintro e W_ ⟨rfl, hW⟩; subst hW; have M1 := Aside0.mk trivial; rw [HC.out.read.1, HC.out.read.2]))
      go_returns
      exact ⟨rfl, HTW.out.bel⟩
end Go.Proofs.Ytmonlhgfgnfbdaa
