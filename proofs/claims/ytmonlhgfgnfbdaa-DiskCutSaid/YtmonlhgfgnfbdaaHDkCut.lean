/- The walk of the law DiskCut: it tells true. -/
import Derived.Test.YtmonlhgfgnfbdaaHDkLoop3
namespace Go.Proofs.Ytmonlhgfgnfbdaa
open Go.RowKit Go.Lib Go.Proofs.YtmonlhgfgnfbdaaW.PrintWords Go.Proofs.YtmonlhgfgnfbdaaW.PrintLast Go.Proofs.YtmonlhgfgnfbdaaW.PrintMore
set_option linter.unusedVariables false
set_option linter.unusedSimpArgs false
set_option maxHeartbeats 64000000
set_option maxRecDepth 100000
theorem diskcut_calls (w : World) (z nn : Int) (A : Option Addr) (c : Nat) (l : List (Int × ByteArray × Bool)) (hz : Rng z) (hnn : Rng nn) (hwp : WPs w A l) : Calls Try.prog 9 #[.int .i64 z, .int .i64 nn, .slice A l.length c] w fun e w' => e = .returned (.bool true) ∧ Below w.heap.size w w' := by
  have HW := Aside0.mk hwp
  clear hwp
  go_enter Try.func9, Try.ntmps9
  go_wp2_with (first | (have G_ := T3; clear G_; go_at_call 20; refine (cut_calls T3.out.1 (m : Int)).mono ?_; rintro e Wc2 ⟨rfl, pvd, hst⟩; rw [(cut2 n m).2.2]; rw [(cut2 n m).1] at hst; have T4 := Aside0.mk (And.intro hst.dk (T3.out.2.trans hst.bel)); clear hst) | (have G_ := T2; clear G_; go_at_call 20; refine (cut_calls T2.out.1 ((m + 5 : Nat) : Int)).mono ?_; rintro e Wc1 ⟨rfl, pvc, hst⟩; rw [(cut2 n m).2.1]; have T3 := Aside0.mk (And.intro hst.dk (T2.out.2.trans hst.bel)); clear hst) | (go_at_call 12; refine (new_calls _ n hn1 hn2).mono ?_; rintro e W2 ⟨d, g1, g2, rfl, hdk, hbb⟩; have T2 := Aside0.mk (And.intro (hdk.lower T1.out.size) (T1.out.trans (hbb.mono T1.out.size))); clear hdk hbb) | (have G_ := hn1; clear G_; go_at_call 14; refine (pick_calls _ nn 20 hnn (by omega) (by omega)).mono ?_; rintro e W_ ⟨m, hm, rfl, hW⟩; subst hW; have hw5 : IntKind.i64.wrap ((m : Int) + 5) = ((m + 5 : Nat) : Int) := (by rw [IntKind.wrap_i64]; omega)) | (go_at_call 14; refine (pick_calls _ z 100 hz (by omega) (by omega)).mono ?_; rintro e W_ ⟨r, hr, rfl, hW⟩; subst hW; obtain ⟨n, hnr⟩ : ∃ n : Nat, n = r + 1 := ⟨_, rfl⟩; have hw : IntKind.i64.wrap (1 + (r : Int)) = (n : Int) := (by rw [IntKind.wrap_i64]; omega); have hn1 : 1 ≤ n := (by omega); have hn2 : n ≤ 4194304 := (by omega); have hn3 : n ≤ 100 := (by omega); clear hnr hr; have hmk := fun w => make_bytes n hn2 w) | (go_at_call 11; refine (sane_calls _).mono ?_; rintro e W1 ⟨rfl, hsn⟩; have T1 := Aside0.mk hsn; clear hsn))
  have hgb0 := heap_alloc_new Wc2 (.cells (bcells (List.replicate n 0)) 5)
  have L0 : LS w (Wc2.alloc (.cells (bcells (List.replicate n 0)) 5)) d g1 g2 Wc2.heap.size pvd ⟨(m : Int) == 0, m, List.replicate n 0, List.replicate n 0, []⟩ (List.replicate n 0) := ⟨T4.out.1.below (below_alloc (Below.refl _ _) _), hgb0, Nat.ne_of_gt (T4.out.1.lt g1 (.inl (.inr (.inl rfl)))).2, Nat.ne_of_gt (T4.out.1.lt g2 (.inl (.inr (.inr rfl)))).2, T4.out.2.size, T4.out.2.trans ((below_alloc (Below.refl _ _) _).mono T4.out.2.size)⟩
  have S0 := Aside0.mk (And.intro L0 (Cutting.start n m))
  clear L0 hgb0 hmk T1 hw hw5
  generalize Wc2.alloc (.cells (bcells (List.replicate n 0)) 5) = W3 at S0 ⊢
  generalize Wc2.heap.size = gb at S0 ⊢
  clear T2 T3 T4
  go_loopg [11, 12] 41 (fun gk v11 v12 w' => ∃ (i : Nat) (pv : Value) (s : DD) (v : Value), v = v11 ∧ v12 = .int .i64 i ∧ Aside0 (i ≤ 40 ∧ i ≤ l.length ∧ gk = 40 - i + 1 ∧ LS w w' d g1 g2 gb pv s s.vis ∧ Cutting s n m (min i m) ∧ w'.ownsRow w.heap.size 3 1 v (min i m) (nums .i64 (allOf (min i m)))))
  case atStart => exact ⟨0, _, _, _, rfl, rfl, ⟨by omega, by omega, by omega, S0.out.1, by rw [Nat.zero_min]; exact S0.out.2, by rw [Nat.zero_min]; exact World.ownsRow_nil _ _ _ _⟩⟩
  case round =>
    clear S0
    obtain ⟨i, pv, s, v, rfl, rfl, HI⟩ := hrel
    by_cases h1 : i < l.length
    · by_cases h2 : i < 40
      · obtain ⟨hrg, bb, oo, hA, c0, c1, c2⟩ := (HW.out.below HI.out.2.2.2.1.bel) i h1
        subst hA
        obtain ⟨⟨po, ps, pb⟩, hx⟩ : ∃ x, l[i] = x := ⟨_, rfl⟩
        rw [hx] at hrg c0 c1 c2
        dsimp only at hrg c0 c1 c2
        clear hx
        have d1 : decide ((i : Int) < (l.length : Int)) = true := decide_eq_true (by omega)
        have HLS := Aside0.mk HI.out.2.2.2.1
        have HC := Aside0.mk HI.out.2.2.2.2.1
        have HO := Aside0.mk HI.out.2.2.2.2.2
        have d2 : decide ((i : Int) < 40) = true := decide_eq_true (by omega)
        by_cases him : i < m
        · have dm : decide ((i : Int) < (m : Int)) = true := decide_eq_true (by omega)
          have hmn : min i m = i := by omega
          have hmn1 : min (i + 1) m = i + 1 := by omega
          rw [hmn] at HC HO
          have HQ := Aside0.mk HC.out
          obtain ⟨i0, hi, hz0, hz1, hz2⟩ := info_parts int_infoE
          go_wp2_with (first | (at_builtin; refine wpList_append_own _ rfl _ _ 32 rfl w.heap.size 3 i0 (.int .i64 0) 1 8 Try.underlying32 hi hz0 hz1 hz2 rfl (by decide) _ _ _ rfl (HO3.out.alloc _) ⟨_, 0, none⟩ 1 1 [Value.int .i64 (i : Int)] rfl rfl (cell_one_new _ _ _) (by simp [Value.oneCell']) (by unfold maxLen; omega) (by omega) (by have := TP.out.bel.size; rw [World.size_alloc]; omega) ?_; intro v' w1 hown' hgrow hnl_; have TN := Aside0.mk (And.intro ((TP.out.below (below_alloc (Below.refl _ _) _)).grown (HO3.out.alloc _) hgrow) hown'); clear hown' hgrow hnl_) | (have G_ := TW; clear G_; go_at_call 23; refine (put_calls _ gb n k s.vis u TW.out.1.row HQ.out.vis hku hn2).mono ?_; rintro e Wp ⟨rfl, q1, q2, q3⟩; have TP := Aside0.mk (TW.out.1.put q1 q2 q3); have HO3 := Aside0.mk (TW.out.1.rowPut q2 HO2.out); clear q1 q2 q3 c0 c1 c2) | (have G_ := TF; clear G_; go_at_call 17; refine (write_calls TF.out.dk (by rw [HQ.out.left]; omega) (by rw [HQ.out.pend]; omega) (k : Int) u).mono ?_; rintro e Ww ⟨rfl, pv1, hst⟩; have hbx := TF.out.boxStep hst HB.out; have hon := HQ.out.on him k u hku; have TW := Aside0.mk (And.intro (TF.out.step hst) (And.intro hon.2.1 hon.2.2)); have HO2 := Aside0.mk (TF.out.rowStep hst HO1.out); rw [hon.1]; clear hst hon; have c0 := cell_of_heap hbx 0; have c1 := cell_of_heap hbx 1; have c2 := cell_of_heap hbx 2; have HB2 := Aside0.mk hbx; clear hbx) | (go_at_call 22; refine (fits_calls _ po ps pb n hrg (by omega)).mono ?_; rintro e Wf ⟨k, u, hku, rfl, hbf⟩; have TF := Aside0.mk ((HLS.out.below hbf).below (below_alloc (Below.refl _ Wf) (.cells #[.int .i64 k, .string u, .bool pb] 42))); have HO1 := Aside0.mk (LS.rowBelow (LS.rowBelow HO.out hbf) (below_alloc (Below.refl _ Wf) (.cells #[.int .i64 k, .string u, .bool pb] 42))); have hbx := heap_alloc_new Wf (.cells #[.int .i64 k, .string u, .bool pb] 42); have HB := Aside0.mk hbx; clear hbf c0 c1 c2 hbx))
          go_roundg (40 - i)
          case rel => exact ⟨i + 1, _, _, _, rfl, by simp <;> (first | omega | (unfold wrap64; omega)), ⟨by omega, by omega, by omega, by rw [TW.out.2.2]; exact TN.out.1, by rw [hmn1]; exact TW.out.2.1, by rw [hmn1, allOf_succ]; simpa [nums] using TN.out.2⟩⟩
          case measure => have := HI.out.2.2.1; omega
        · have dm : decide ((i : Int) < (m : Int)) = false := decide_eq_false (by omega)
          have hmn : min i m = m := by omega
          have hmn1 : min (i + 1) m = m := by omega
          rw [hmn] at HC HO
          have HQ := Aside0.mk HC.out
          go_wp2_with (first | (have G_ := TF; clear G_; go_at_call 17; refine (write_calls TF.out.dk (by rw [HQ.out.left]; omega) (by rw [HQ.out.pend]; omega) (k : Int) u).mono ?_; rintro e Ww ⟨rfl, pv1, hst⟩; rw [(HQ.out.stopped (k : Int) u).1]; rw [(HQ.out.stopped (k : Int) u).2] at hst; have TW := Aside0.mk (TF.out.step hst); have HO2 := Aside0.mk (TF.out.rowStep hst HO1.out); clear hst) | (go_at_call 22; refine (fits_calls _ po ps pb n hrg (by omega)).mono ?_; rintro e Wf ⟨k, u, hku, rfl, hbf⟩; have TF := Aside0.mk ((HLS.out.below hbf).below (below_alloc (Below.refl _ Wf) (.cells #[.int .i64 k, .string u, .bool pb] 42))); have HO1 := Aside0.mk (LS.rowBelow (LS.rowBelow HO.out hbf) (below_alloc (Below.refl _ Wf) (.cells #[.int .i64 k, .string u, .bool pb] 42))); have hbx := heap_alloc_new Wf (.cells #[.int .i64 k, .string u, .bool pb] 42); have HB := Aside0.mk hbx; clear hbf c0 c1 c2 hbx))
          go_roundg (40 - i)
          case rel => exact ⟨i + 1, _, _, _, rfl, by simp <;> (first | omega | (unfold wrap64; omega)), ⟨by omega, by omega, by omega, TW.out, by rw [hmn1]; exact HQ.out, by rw [hmn1]; exact HO2.out⟩⟩
          case measure => have := HI.out.2.2.1; omega
      · obtain rfl : i = 40 := by have := HI.out.1; omega
        have d1 : decide ((40 : Int) < (l.length : Int)) = true := decide_eq_true (by omega)
        have HLS := Aside0.mk HI.out.2.2.2.1
        have ho := HI.out.2.2.2.2.2
        have hct := HI.out.2.2.2.2.1
        obtain ⟨q, hq⟩ : ∃ q, min 40 m = q := ⟨_, rfl⟩
        rw [hq] at ho hct
        have hqm : q ≤ m := by omega
        clear hq
        have h' : wr.ownsRow w.heap.size 3 1 v (allOf q).length (nums .i64 (allOf q)) := by rw [allOf_length]; exact ho
        obtain ⟨E, cp, hv, hcp, _⟩ := own_reads h'
        rw [allOf_length] at hv
        subst hv
        clear h' hcp
        have HO := Aside0.mk ho
        have HQ := Aside0.mk hct
        clear ho hct HI
        by_cases hqq : q < m
        · have dq : decide ((q : Int) < (m : Int)) = true := decide_eq_true (by omega)
          go_wp2_with (first | (go_at_call 19; refine (sync_calls HLS.out.dk).mono ?_; rintro e Ws ⟨rfl, pv2, hst⟩; rw [show syncE s = 0 from (by unfold syncE; rw [HQ.out.off, decide_eq_false (by omega)]; rfl)]; have TS := Aside0.mk (HLS.out.bel.trans hst.bel); clear hst))
          go_returns
          exact ⟨rfl, TS.out⟩
        · obtain rfl : q = m := by omega
          have dq : decide ((q : Int) < (q : Int)) = false := decide_eq_false (by omega)
          have HS := Aside0.mk HQ.out.settled
          have HE : Aside0 (readE s 0 0 = 231 ∧ readS s 0 0 = ⟨#[]⟩ ∧ syncE s = 231 ∧ syncS s = s ∧ cutE s 3 = 231 ∧ cutS s 3 = s) := Aside0.mk (by
              have ho : s.off = true := by rw [HQ.out.off]; exact decide_eq_true (Nat.le_refl _)
              refine ⟨by unfold readE; rw [ho]; rfl, by unfold readS; rw [ho]; rfl, by unfold syncE; rw [ho]; rfl, by unfold syncS; rw [ho]; rfl, by unfold cutE; rw [ho]; rfl, by unfold cutS; rw [ho]; rfl⟩)
          go_wp2_with (first | (have G_ := TE; clear G_; go_at_call 19; refine (sync_calls TE.out.dk).mono ?_; rintro e Wg ⟨rfl, pvg, hst⟩; rw [show syncE (writeS _ (0 : Int) (⟨#[120]⟩ : ByteArray)) = 0 from (HS.out.write 0 ⟨#[120]⟩ hn1).2.2.sync.1]; have TG := Aside0.mk (TE.out.bel.trans hst.bel); clear hst) | (have G_ := TC; clear G_; go_at_call 17; refine (write_calls TC.out.dk (Nat.zero_le _) (Nat.zero_le _) 0 ⟨#[120]⟩).mono ?_; rintro e We ⟨rfl, pve, hst⟩; rw [show writeE _ (0 : Int) (⟨#[120]⟩ : ByteArray) = 0 from (HS.out.write 0 ⟨#[120]⟩ hn1).1]; have TE := Aside0.mk (TC.out.step hst); clear hst hcv) | (have G_ := TC; clear G_; go_at_call 13; refine (read_calls TC.out.dk 0 (n : Int)).mono ?_; rintro e W_ ⟨rfl, hW⟩; subst hW; rw [HS.out.read.1, HS.out.read.2, ← HQ.out.all]) | (have G_ := TB; clear G_; go_at_call 21; refine (crash_all TB.out.1.dk (by intro x hx; rw [HQ.out.dur]; exact HQ.out.fit x hx) (by rw [HQ.out.pend]; omega) (by rw [HQ.out.pend]; exact TB.out.2)).mono ?_; rintro e Wc ⟨rfl, pv9, hst⟩; have TC := Aside0.mk (TB.out.1.step hst); clear hst; have hcv := bytes_to_string TC.out.row 0 n n (by rw [HQ.out.vis]; omega); rw [List.drop_zero, List.take_of_length_le (by rw [HQ.out.vis]; exact Nat.le_refl _)] at hcv) | (have G_ := TB; clear G_; go_at_call 15; refine (size_calls TB.out.1.dk).mono ?_; rintro e W_ ⟨rfl, hW⟩; subst hW; rw [HQ.out.dur]) | (have G_ := TB; clear G_; go_at_call 16; refine (pending_calls TB.out.1.dk).mono ?_; rintro e W_ ⟨rfl, hW⟩; subst hW; rw [HQ.out.pend]) | (have G_ := TA; clear G_; go_at_call 20; refine (cut_calls TA.out.1.dk 3).mono ?_; rintro e Wb ⟨rfl, pvb, hst⟩; rw [HE.out.2.2.2.2.1]; rw [HE.out.2.2.2.2.2] at hst; have TB := Aside0.mk (And.intro (TA.out.1.step hst) (TA.out.1.rowStep hst TA.out.2)); clear hst) | (go_at_call 19; refine (sync_calls HLS.out.dk).mono ?_; rintro e Wa ⟨rfl, pva, hst⟩; rw [HE.out.2.2.1]; rw [HE.out.2.2.2.1] at hst; have TA := Aside0.mk (And.intro (HLS.out.step hst) (HLS.out.rowStep hst HO.out)); clear hst) | (go_at_call 13; refine (read_calls HLS.out.dk 0 0).mono ?_; rintro e W_ ⟨rfl, hW⟩; subst hW; rw [HE.out.1, HE.out.2.1]))
          go_returns
          exact ⟨rfl, TG.out⟩
    · have d1 : decide ((i : Int) < (l.length : Int)) = false := decide_eq_false (by omega)
      have HLS := Aside0.mk HI.out.2.2.2.1
      have ho := HI.out.2.2.2.2.2
      have hct := HI.out.2.2.2.2.1
      obtain ⟨q, hq⟩ : ∃ q, min i m = q := ⟨_, rfl⟩
      rw [hq] at ho hct
      have hqm : q ≤ m := by omega
      clear hq
      have h' : wr.ownsRow w.heap.size 3 1 v (allOf q).length (nums .i64 (allOf q)) := by rw [allOf_length]; exact ho
      obtain ⟨E, cp, hv, hcp, _⟩ := own_reads h'
      rw [allOf_length] at hv
      subst hv
      clear h' hcp
      have HO := Aside0.mk ho
      have HQ := Aside0.mk hct
      clear ho hct HI
      by_cases hqq : q < m
      · have dq : decide ((q : Int) < (m : Int)) = true := decide_eq_true (by omega)
        go_wp2_with (first | (go_at_call 19; refine (sync_calls HLS.out.dk).mono ?_; rintro e Ws ⟨rfl, pv2, hst⟩; rw [show syncE s = 0 from (by unfold syncE; rw [HQ.out.off, decide_eq_false (by omega)]; rfl)]; have TS := Aside0.mk (HLS.out.bel.trans hst.bel); clear hst))
        go_returns
        exact ⟨rfl, TS.out⟩
      · obtain rfl : q = m := by omega
        have dq : decide ((q : Int) < (q : Int)) = false := decide_eq_false (by omega)
        have HS := Aside0.mk HQ.out.settled
        have HE : Aside0 (readE s 0 0 = 231 ∧ readS s 0 0 = ⟨#[]⟩ ∧ syncE s = 231 ∧ syncS s = s ∧ cutE s 3 = 231 ∧ cutS s 3 = s) := Aside0.mk (by
            have ho : s.off = true := by rw [HQ.out.off]; exact decide_eq_true (Nat.le_refl _)
            refine ⟨by unfold readE; rw [ho]; rfl, by unfold readS; rw [ho]; rfl, by unfold syncE; rw [ho]; rfl, by unfold syncS; rw [ho]; rfl, by unfold cutE; rw [ho]; rfl, by unfold cutS; rw [ho]; rfl⟩)
        go_wp2_with (first | (have G_ := TE; clear G_; go_at_call 19; refine (sync_calls TE.out.dk).mono ?_; rintro e Wg ⟨rfl, pvg, hst⟩; rw [show syncE (writeS _ (0 : Int) (⟨#[120]⟩ : ByteArray)) = 0 from (HS.out.write 0 ⟨#[120]⟩ hn1).2.2.sync.1]; have TG := Aside0.mk (TE.out.bel.trans hst.bel); clear hst) | (have G_ := TC; clear G_; go_at_call 17; refine (write_calls TC.out.dk (Nat.zero_le _) (Nat.zero_le _) 0 ⟨#[120]⟩).mono ?_; rintro e We ⟨rfl, pve, hst⟩; rw [show writeE _ (0 : Int) (⟨#[120]⟩ : ByteArray) = 0 from (HS.out.write 0 ⟨#[120]⟩ hn1).1]; have TE := Aside0.mk (TC.out.step hst); clear hst hcv) | (have G_ := TC; clear G_; go_at_call 13; refine (read_calls TC.out.dk 0 (n : Int)).mono ?_; rintro e W_ ⟨rfl, hW⟩; subst hW; rw [HS.out.read.1, HS.out.read.2, ← HQ.out.all]) | (have G_ := TB; clear G_; go_at_call 21; refine (crash_all TB.out.1.dk (by intro x hx; rw [HQ.out.dur]; exact HQ.out.fit x hx) (by rw [HQ.out.pend]; omega) (by rw [HQ.out.pend]; exact TB.out.2)).mono ?_; rintro e Wc ⟨rfl, pv9, hst⟩; have TC := Aside0.mk (TB.out.1.step hst); clear hst; have hcv := bytes_to_string TC.out.row 0 n n (by rw [HQ.out.vis]; omega); rw [List.drop_zero, List.take_of_length_le (by rw [HQ.out.vis]; exact Nat.le_refl _)] at hcv) | (have G_ := TB; clear G_; go_at_call 15; refine (size_calls TB.out.1.dk).mono ?_; rintro e W_ ⟨rfl, hW⟩; subst hW; rw [HQ.out.dur]) | (have G_ := TB; clear G_; go_at_call 16; refine (pending_calls TB.out.1.dk).mono ?_; rintro e W_ ⟨rfl, hW⟩; subst hW; rw [HQ.out.pend]) | (have G_ := TA; clear G_; go_at_call 20; refine (cut_calls TA.out.1.dk 3).mono ?_; rintro e Wb ⟨rfl, pvb, hst⟩; rw [HE.out.2.2.2.2.1]; rw [HE.out.2.2.2.2.2] at hst; have TB := Aside0.mk (And.intro (TA.out.1.step hst) (TA.out.1.rowStep hst TA.out.2)); clear hst) | (go_at_call 19; refine (sync_calls HLS.out.dk).mono ?_; rintro e Wa ⟨rfl, pva, hst⟩; rw [HE.out.2.2.1]; rw [HE.out.2.2.2.1] at hst; have TA := Aside0.mk (And.intro (HLS.out.step hst) (HLS.out.rowStep hst HO.out)); clear hst) | (go_at_call 13; refine (read_calls HLS.out.dk 0 0).mono ?_; rintro e W_ ⟨rfl, hW⟩; subst hW; rw [HE.out.1, HE.out.2.1]))
        go_returns
        exact ⟨rfl, TG.out⟩
end Go.Proofs.Ytmonlhgfgnfbdaa
