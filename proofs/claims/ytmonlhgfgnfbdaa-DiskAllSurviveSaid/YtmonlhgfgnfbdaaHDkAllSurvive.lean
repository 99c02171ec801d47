/- The walk of the law DiskAllSurvive: it tells true. -/
import Derived.Test.YtmonlhgfgnfbdaaHDkLoop2
namespace Go.Proofs.Ytmonlhgfgnfbdaa
open Go.RowKit Go.Lib Go.Proofs.YtmonlhgfgnfbdaaW.PrintWords Go.Proofs.YtmonlhgfgnfbdaaW.PrintLast Go.Proofs.YtmonlhgfgnfbdaaW.PrintMore
set_option linter.unusedVariables false
set_option linter.unusedSimpArgs false
set_option maxHeartbeats 64000000
set_option maxRecDepth 100000
theorem diskallsurvive_calls (w : World) (z : Int) (A : Option Addr) (c : Nat) (l : List (Int × ByteArray × Bool)) (hz : Rng z) (hwp : WPs w A l) : Calls Try.prog 8 #[.int .i64 z, .slice A l.length c] w fun e w' => e = .returned (.bool true) ∧ Below w.heap.size w w' := by
  have HW := Aside0.mk hwp
  clear hwp
  go_enter Try.func8, Try.ntmps8
  go_wp2_with (first | (go_at_call 12; refine (new_calls _ n hn1 hn2).mono ?_; rintro e W2 ⟨d, g1, g2, rfl, hdk, hbb⟩; have T2 := Aside0.mk (And.intro (hdk.lower T1.out.size) (T1.out.trans (hbb.mono T1.out.size))); clear hdk hbb) | (go_at_call 14; refine (pick_calls _ z 300 hz (by omega) (by omega)).mono ?_; rintro e W_ ⟨r, hr, rfl, hW⟩; subst hW; obtain ⟨n, hnr⟩ : ∃ n : Nat, n = r + 1 := ⟨_, rfl⟩; have hw : IntKind.i64.wrap (1 + (r : Int)) = (n : Int) := (by rw [IntKind.wrap_i64]; omega); have hn1 : 1 ≤ n := (by omega); have hn2 : n ≤ 4194304 := (by omega); have hn3 : n ≤ 300 := (by omega); clear hnr hr; have hmk := fun w => make_bytes n hn2 w) | (go_at_call 11; refine (sane_calls _).mono ?_; rintro e W1 ⟨rfl, hsn⟩; have T1 := Aside0.mk hsn; clear hsn))
  have S0 : Aside0 (DS w W2 d g1 g2 (.slice none 0 0) ⟨false, 0, List.replicate n 0, List.replicate n 0, []⟩ ∧ Calm ⟨false, 0, List.replicate n 0, List.replicate n 0, []⟩ n 0) := Aside0.mk ⟨⟨T2.out.1, T2.out.2⟩, Calm.new n⟩
  clear T2 T1 hw hmk
  go_loopg [8] 61 (fun gk v8 w' => ∃ (i : Nat) (pv : Value) (s : DD), v8 = .int .i64 i ∧ Aside0 (i ≤ 60 ∧ i ≤ l.length ∧ gk = 60 - i + 1 ∧ DS w w' d g1 g2 pv s ∧ Calm s n i ∧ s.vis = applyAll s.pend s.dur))
  case atStart => exact ⟨0, _, _, rfl, ⟨by omega, by omega, by omega, S0.out.1, S0.out.2, rfl⟩⟩
  case round =>
    clear S0
    obtain ⟨i, pv, s, rfl, HI⟩ := hrel
    by_cases h1 : i < l.length
    · by_cases h2 : i < 60
      · obtain ⟨hrg, bb, oo, hA, c0, c1, c2⟩ := (HW.out.below HI.out.2.2.2.1.bel) i h1
        subst hA
        obtain ⟨⟨po, ps, pb⟩, hx⟩ : ∃ x, l[i] = x := ⟨_, rfl⟩
        rw [hx] at hrg c0 c1 c2
        dsimp only at hrg c0 c1 c2
        clear hx
        have d1 : decide ((i : Int) < (l.length : Int)) = true := decide_eq_true (by omega)
        have HDS := Aside0.mk HI.out.2.2.2.1
        have HC := Aside0.mk HI.out.2.2.2.2.1
        have d2 : decide ((i : Int) < 60) = true := decide_eq_true (by omega)
        cases pb
        · go_wp2_with (first | (have G_ := TF; clear G_; go_at_call 17; refine (write_calls TF.out.dk (by rw [HC.out.left]; omega) (by have := HC.out.pend; omega) (k : Int) u).mono ?_; rintro e Ww ⟨rfl, pv1, hst⟩; have hbx := TF.out.boxStep hst HB.out; have hcw := HC.out.write k u hku; have TW := Aside0.mk (And.intro (TF.out.step hst) (And.intro hcw.2.2 hcw.2.1)); rw [hcw.1]; clear hst hcw; have c0 := cell_of_heap hbx 0; have c1 := cell_of_heap hbx 1; have c2 := cell_of_heap hbx 2; have HB2 := Aside0.mk hbx; clear hbx) | (go_at_call 22; refine (fits_calls _ po ps false n hrg (by omega)).mono ?_; rintro e Wf ⟨k, u, hku, rfl, hbf⟩; have TF := Aside0.mk ((HDS.out.below hbf).below (below_alloc (Below.refl _ Wf) (.cells #[.int .i64 k, .string u, .bool false] 42))); have hbx := heap_alloc_new Wf (.cells #[.int .i64 k, .string u, .bool false] 42); have HB := Aside0.mk hbx; clear hbf c0 c1 c2 hbx))
          have hiv : (writeS s (k : Int) u).vis = applyAll (writeS s (k : Int) u).pend (writeS s (k : Int) u).dur := by
            rw [TW.out.2.2]
            dsimp only
            rw [applyAll_snoc, ← HI.out.2.2.2.2.2]
          go_roundg (60 - i)
          case rel => exact ⟨i + 1, _, _, by simp <;> (first | omega | (unfold wrap64; omega)), ⟨by omega, by omega, by omega, TW.out.1, TW.out.2.1, hiv⟩⟩
          case measure => have := HI.out.2.2.1; omega
        · go_wp2_with (first | (have G_ := TW; clear G_; go_at_call 19; refine (sync_calls TW.out.1.dk).mono ?_; rintro e Ws ⟨rfl, pv2, hst⟩; have hcs := TW.out.2.1.sync; have TS := Aside0.mk (And.intro (TW.out.1.step hst) (And.intro hcs.2.2 hcs.2.1)); rw [hcs.1]; clear hst hcs c0 c1 c2) | (have G_ := TF; clear G_; go_at_call 17; refine (write_calls TF.out.dk (by rw [HC.out.left]; omega) (by have := HC.out.pend; omega) (k : Int) u).mono ?_; rintro e Ww ⟨rfl, pv1, hst⟩; have hbx := TF.out.boxStep hst HB.out; have hcw := HC.out.write k u hku; have TW := Aside0.mk (And.intro (TF.out.step hst) (And.intro hcw.2.2 hcw.2.1)); rw [hcw.1]; clear hst hcw; have c0 := cell_of_heap hbx 0; have c1 := cell_of_heap hbx 1; have c2 := cell_of_heap hbx 2; have HB2 := Aside0.mk hbx; clear hbx) | (go_at_call 22; refine (fits_calls _ po ps true n hrg (by omega)).mono ?_; rintro e Wf ⟨k, u, hku, rfl, hbf⟩; have TF := Aside0.mk ((HDS.out.below hbf).below (below_alloc (Below.refl _ Wf) (.cells #[.int .i64 k, .string u, .bool true] 42))); have hbx := heap_alloc_new Wf (.cells #[.int .i64 k, .string u, .bool true] 42); have HB := Aside0.mk hbx; clear hbf c0 c1 c2 hbx))
          have hiv : (writeS s (k : Int) u).vis = applyAll (writeS s (k : Int) u).pend (writeS s (k : Int) u).dur := by
            rw [TW.out.2.2]
            dsimp only
            rw [applyAll_snoc, ← HI.out.2.2.2.2.2]
          have hiv2 : (syncS (writeS s (k : Int) u)).vis = applyAll (syncS (writeS s (k : Int) u)).pend (syncS (writeS s (k : Int) u)).dur := by
            rw [TS.out.2.2]
            rfl
          go_roundg (60 - i)
          case rel => exact ⟨i + 1, _, _, by simp <;> (first | omega | (unfold wrap64; omega)), ⟨by omega, by omega, by omega, TS.out.1, TS.out.2.1, hiv2⟩⟩
          case measure => have := HI.out.2.2.1; omega
      · obtain rfl : i = 60 := by have := HI.out.1; omega
        have d1 : decide ((60 : Int) < (l.length : Int)) = true := decide_eq_true (by omega)
        have S1 := Aside0.mk (And.intro HI.out.2.2.2.1 HI.out.2.2.2.2.1)
        have hvis := Aside0.mk HI.out.2.2.2.2.2
        have hpn := HI.out.2.2.2.2.1.pend
        have hi60 := HI.out.1
        clear HI
        have hpd : s.pend.length ≤ 60 := by omega
        clear hpn hi60
        go_wp2_with (first | (have G_ := S1; clear G_; go_at_call 13; refine (read_calls S1.out.1.dk 0 (n : Int)).mono ?_; rintro e W_ ⟨rfl, hW⟩; subst hW; rw [S1.out.2.read.1, S1.out.2.read.2]))
        go_loopg [12, 13] (s.pend.length + 1) (fun gk v12 v13 w' => ∃ (j : Nat) (v : Value), v12 = v ∧ v13 = .int .i64 j ∧ Aside0 (j ≤ s.pend.length ∧ gk = s.pend.length - j + 1 ∧ DS w w' d g1 g2 pv s ∧ w'.ownsRow w.heap.size 3 1 v j (nums .i64 (allOf j))))
        case atStart => exact ⟨0, _, rfl, rfl, ⟨by omega, by omega, S1.out.1, World.ownsRow_nil _ _ _ _⟩⟩
        case round =>
          obtain ⟨j, v, rfl, rfl, HJ⟩ := hrel
          obtain ⟨i0, hi, hz0, hz1, hz2⟩ := info_parts int_infoE
          by_cases hj : j < s.pend.length
          · have dj : decide ((j : Int) < (s.pend.length : Int)) = true := decide_eq_true (by omega)
            have TJ := Aside0.mk (And.intro HJ.out.2.2.1 HJ.out.2.2.2)
            go_wp2_with (first | (at_builtin; refine wpList_append_own _ rfl _ _ 32 rfl w.heap.size 3 i0 (.int .i64 0) 1 8 Try.underlying32 hi hz0 hz1 hz2 rfl (by decide) _ _ _ rfl (TJ.out.2.alloc _) ⟨_, 0, none⟩ 1 1 [Value.int .i64 (j : Int)] rfl rfl (cell_one_new _ _ _) (by simp [Value.oneCell']) (by unfold maxLen; omega) (by omega) (by have := TJ.out.1.bel.size; rw [World.size_alloc]; omega) ?_; intro v' w1 hown' hgrow hnl_; have TN := Aside0.mk (And.intro ((TJ.out.1.below (below_alloc (Below.refl _ _) _)).grown (TJ.out.2.alloc _) hgrow) hown'); clear hown' hgrow hnl_) | (go_at_call 16; refine (pending_calls TJ.out.1.dk).mono ?_; rintro e W_ ⟨rfl, hW⟩; subst hW))
            go_roundg (s.pend.length - j)
            case rel => exact ⟨j + 1, _, rfl, by simp <;> (first | omega | (unfold wrap64; omega)), ⟨by omega, by omega, TN.out.1, by rw [allOf_succ]; simpa [nums] using TN.out.2⟩⟩
            case measure => have := HJ.out.2.1; omega
          · have dj : decide ((j : Int) < (s.pend.length : Int)) = false := decide_eq_false (by omega)
            obtain rfl : j = s.pend.length := by have := HJ.out.1; omega
            have TJ := Aside0.mk (And.intro HJ.out.2.2.1 HJ.out.2.2.2)
            have hcm := S1.out.2
            have hcr : Calm ⟨false, 0, applyAll s.pend s.dur, applyAll s.pend s.dur, []⟩ n 0 := ⟨rfl, rfl, by rw [← hvis.out]; exact hcm.vis, by rw [← hvis.out]; exact hcm.vis, Nat.le_refl _, fun x hx => by cases hx⟩
            have HCR := Aside0.mk hcr
            clear hcm hcr HJ
            have rr1 := HCR.out.read
            go_wp2_with (first | (have G_ := TD; clear G_; go_at_call 13; refine (read_calls TD.out.1.dk 0 (n : Int)).mono ?_; rintro e W_ ⟨rfl, hW⟩; subst hW; rw [HCR.out.read.1, HCR.out.read.2, ← hvis.out]) | (have G_ := TC; clear G_; go_at_call 21; refine (crash_empty TC.out.1.dk HCR.out 0).mono ?_; rintro e Wd ⟨rfl, pv8, hst⟩; have TD := Aside0.mk (And.intro (TC.out.1.step hst) trivial); clear hst) | (have G_ := TC; clear G_; go_at_call 13; refine (read_calls TC.out.1.dk 0 (n : Int)).mono ?_; rintro e W_ ⟨rfl, hW⟩; subst hW; rw [HCR.out.read.1, HCR.out.read.2, ← hvis.out]) | (go_at_call 21; refine (crash_all TJ.out.1.dk (by intro x hx; rw [S1.out.2.dur]; exact S1.out.2.fit x hx) (by omega) TJ.out.2).mono ?_; rintro e Wc ⟨rfl, pv9, hst⟩; have TC := Aside0.mk (And.intro (TJ.out.1.step hst) trivial); clear hst) | (go_at_call 16; refine (pending_calls TJ.out.1.dk).mono ?_; rintro e W_ ⟨rfl, hW⟩; subst hW))
            go_returns
            exact ⟨rfl, TD.out.1.bel⟩
    · have d1 : decide ((i : Int) < (l.length : Int)) = false := decide_eq_false (by omega)
      have S1 := Aside0.mk (And.intro HI.out.2.2.2.1 HI.out.2.2.2.2.1)
      have hvis := Aside0.mk HI.out.2.2.2.2.2
      have hpn := HI.out.2.2.2.2.1.pend
      have hi60 := HI.out.1
      clear HI
      have hpd : s.pend.length ≤ 60 := by omega
      clear hpn hi60
      go_wp2_with (first | (have G_ := S1; clear G_; go_at_call 13; refine (read_calls S1.out.1.dk 0 (n : Int)).mono ?_; rintro e W_ ⟨rfl, hW⟩; subst hW; rw [S1.out.2.read.1, S1.out.2.read.2]))
      go_loopg [12, 13] (s.pend.length + 1) (fun gk v12 v13 w' => ∃ (j : Nat) (v : Value), v12 = v ∧ v13 = .int .i64 j ∧ Aside0 (j ≤ s.pend.length ∧ gk = s.pend.length - j + 1 ∧ DS w w' d g1 g2 pv s ∧ w'.ownsRow w.heap.size 3 1 v j (nums .i64 (allOf j))))
      case atStart => exact ⟨0, _, rfl, rfl, ⟨by omega, by omega, S1.out.1, World.ownsRow_nil _ _ _ _⟩⟩
      case round =>
        obtain ⟨j, v, rfl, rfl, HJ⟩ := hrel
        obtain ⟨i0, hi, hz0, hz1, hz2⟩ := info_parts int_infoE
        by_cases hj : j < s.pend.length
        · have dj : decide ((j : Int) < (s.pend.length : Int)) = true := decide_eq_true (by omega)
          have TJ := Aside0.mk (And.intro HJ.out.2.2.1 HJ.out.2.2.2)
          go_wp2_with (first | (at_builtin; refine wpList_append_own _ rfl _ _ 32 rfl w.heap.size 3 i0 (.int .i64 0) 1 8 Try.underlying32 hi hz0 hz1 hz2 rfl (by decide) _ _ _ rfl (TJ.out.2.alloc _) ⟨_, 0, none⟩ 1 1 [Value.int .i64 (j : Int)] rfl rfl (cell_one_new _ _ _) (by simp [Value.oneCell']) (by unfold maxLen; omega) (by omega) (by have := TJ.out.1.bel.size; rw [World.size_alloc]; omega) ?_; intro v' w1 hown' hgrow hnl_; have TN := Aside0.mk (And.intro ((TJ.out.1.below (below_alloc (Below.refl _ _) _)).grown (TJ.out.2.alloc _) hgrow) hown'); clear hown' hgrow hnl_) | (go_at_call 16; refine (pending_calls TJ.out.1.dk).mono ?_; rintro e W_ ⟨rfl, hW⟩; subst hW))
          go_roundg (s.pend.length - j)
          case rel => exact ⟨j + 1, _, rfl, by simp <;> (first | omega | (unfold wrap64; omega)), ⟨by omega, by omega, TN.out.1, by rw [allOf_succ]; simpa [nums] using TN.out.2⟩⟩
          case measure => have := HJ.out.2.1; omega
        · have dj : decide ((j : Int) < (s.pend.length : Int)) = false := decide_eq_false (by omega)
          obtain rfl : j = s.pend.length := by have := HJ.out.1; omega
          have TJ := Aside0.mk (And.intro HJ.out.2.2.1 HJ.out.2.2.2)
          have hcm := S1.out.2
          have hcr : Calm ⟨false, 0, applyAll s.pend s.dur, applyAll s.pend s.dur, []⟩ n 0 := ⟨rfl, rfl, by rw [← hvis.out]; exact hcm.vis, by rw [← hvis.out]; exact hcm.vis, Nat.le_refl _, fun x hx => by cases hx⟩
          have HCR := Aside0.mk hcr
          clear hcm hcr HJ
          have rr1 := HCR.out.read
          go_wp2_with (first | (have G_ := TD; clear G_; go_at_call 13; refine (read_calls TD.out.1.dk 0 (n : Int)).mono ?_; rintro e W_ ⟨rfl, hW⟩; subst hW; rw [HCR.out.read.1, HCR.out.read.2, ← hvis.out]) | (have G_ := TC; clear G_; go_at_call 21; refine (crash_empty TC.out.1.dk HCR.out 0).mono ?_; rintro e Wd ⟨rfl, pv8, hst⟩; have TD := Aside0.mk (And.intro (TC.out.1.step hst) trivial); clear hst) | (have G_ := TC; clear G_; go_at_call 13; refine (read_calls TC.out.1.dk 0 (n : Int)).mono ?_; rintro e W_ ⟨rfl, hW⟩; subst hW; rw [HCR.out.read.1, HCR.out.read.2, ← hvis.out]) | (go_at_call 21; refine (crash_all TJ.out.1.dk (by intro x hx; rw [S1.out.2.dur]; exact S1.out.2.fit x hx) (by omega) TJ.out.2).mono ?_; rintro e Wc ⟨rfl, pv9, hst⟩; have TC := Aside0.mk (And.intro (TJ.out.1.step hst) trivial); clear hst) | (go_at_call 16; refine (pending_calls TJ.out.1.dk).mono ?_; rintro e W_ ⟨rfl, hW⟩; subst hW))
          go_returns
          exact ⟨rfl, TD.out.1.bel⟩
end Go.Proofs.Ytmonlhgfgnfbdaa
