/- The walk of the law DiskSynced: it tells true. -/
import Derived.Test.YtmonlhgfgnfbdaaHDkLoop
namespace Go.Proofs.Ytmonlhgfgnfbdaa
open Go.RowKit Go.Lib Go.Proofs.YtmonlhgfgnfbdaaW.PrintWords Go.Proofs.YtmonlhgfgnfbdaaW.PrintLast Go.Proofs.YtmonlhgfgnfbdaaW.PrintMore
set_option linter.unusedVariables false
set_option linter.unusedSimpArgs false
set_option maxHeartbeats 64000000
set_option maxRecDepth 100000
theorem disksynced_calls (w : World) (z : Int) (A : Option Addr) (c : Nat) (l : List (Int × ByteArray × Bool)) (torn : Int) (hz : Rng z) (hwp : WPs w A l) : Calls Try.prog 6 #[.int .i64 z, .slice A l.length c, .int .i64 torn] w fun e w' => e = .returned (.bool true) ∧ Below w.heap.size w w' := by
  have HW := Aside0.mk hwp
  clear hwp
  go_enter Try.func6, Try.ntmps6
  go_upto_region 7 with (first | (go_at_call 12; refine (new_calls _ n hn1 hn2).mono ?_; rintro e W2 ⟨d, g1, g2, rfl, hdk, hbb⟩; have T2 := Aside0.mk (And.intro (hdk.lower T1.out.size) (T1.out.trans (hbb.mono T1.out.size))); clear hdk hbb) | (go_at_call 14; refine (pick_calls _ z 300 hz (by omega) (by omega)).mono ?_; rintro e W_ ⟨r, hr, rfl, hW⟩; subst hW; obtain ⟨n, hnr⟩ : ∃ n : Nat, n = r + 1 := ⟨_, rfl⟩; have hw : IntKind.i64.wrap (1 + (r : Int)) = (n : Int) := (by rw [IntKind.wrap_i64]; omega); have hn1 : 1 ≤ n := (by omega); have hn2 : n ≤ 4194304 := (by omega); have hn3 : n ≤ 300 := (by omega); clear hnr hr; have hmk := fun w => make_bytes n hn2 w) | (go_at_call 11; refine (sane_calls _).mono ?_; rintro e W1 ⟨rfl, hsn⟩; have T1 := Aside0.mk hsn; clear hsn))
  have hgb0 := heap_alloc_new W2 (.cells (bcells (List.replicate n 0)) 5)
  have L0 : LS w (W2.alloc (.cells (bcells (List.replicate n 0)) 5)) d g1 g2 W2.heap.size (.slice none 0 0) ⟨false, 0, List.replicate n 0, List.replicate n 0, []⟩ (List.replicate n 0) := ⟨T2.out.1.below (below_alloc (Below.refl _ _) _), hgb0, Nat.ne_of_gt (T2.out.1.lt g1 (.inl (.inr (.inl rfl)))).2, Nat.ne_of_gt (T2.out.1.lt g2 (.inl (.inr (.inr rfl)))).2, T2.out.2.size, T2.out.2.trans ((below_alloc (Below.refl _ _) _).mono T2.out.2.size)⟩
  have S0 := Aside0.mk (And.intro L0 (Calm.new n))
  clear L0 hgb0 hmk T1 hw
  generalize W2.alloc (.cells (bcells (List.replicate n 0)) 5) = W3 at S0 ⊢
  generalize W2.heap.size = gb at S0 ⊢
  clear T2
  have hcv := bytes_to_string S0.out.1.row 0 n n (by simp)
  rw [List.drop_zero, List.take_of_length_le (by simp)] at hcv
  go_wp2
  clear hcv
  go_loopg [11, 12] 61 (fun gk v11 v12 w' => ∃ (i : Nat) (pv : Value) (s : DD), v11 = .string (strOf s.dur) ∧ v12 = .int .i64 i ∧ Aside0 (i ≤ 60 ∧ i ≤ l.length ∧ gk = 60 - i + 1 ∧ LS w w' d g1 g2 gb pv s s.vis ∧ Calm s n i))
  case atStart => exact ⟨0, _, _, rfl, rfl, ⟨by omega, by omega, by omega, S0.out.1, S0.out.2⟩⟩
  case round =>
    clear S0
    obtain ⟨i, pv, s, rfl, rfl, HI⟩ := hrel
    by_cases h1 : i < l.length
    · by_cases h2 : i < 60
      · obtain ⟨hrg, bb, oo, hA, c0, c1, c2⟩ := (HW.out.below HI.out.2.2.2.1.bel) i h1
        subst hA
        obtain ⟨⟨po, ps, pb⟩, hx⟩ : ∃ x, l[i] = x := ⟨_, rfl⟩
        rw [hx] at hrg c0 c1 c2
        dsimp only at hrg c0 c1 c2
        clear hx
        have d1 : decide ((i : Int) < (l.length : Int)) = true := decide_eq_true (by omega)
        have HLS := Aside0.mk HI.out.2.2.2.1
        have HC := Aside0.mk HI.out.2.2.2.2
        have d2 : decide ((i : Int) < 60) = true := decide_eq_true (by omega)
        cases pb
        · go_wp2_with (first | (have G_ := TP; clear G_; go_at_call 17; refine (write_calls TP.out.dk (by rw [HC.out.left]; omega) (by have := HC.out.pend; omega) (k : Int) u).mono ?_; rintro e Ww ⟨rfl, pv1, hst⟩; have hbx := TP.out.boxStep hst HB.out; have hcw := HC.out.write k u hku; have TW := Aside0.mk (And.intro (TP.out.step hst) (And.intro hcw.2.2 hcw.2.1)); rw [hcw.1]; clear hst hcw c0 c1 c2; have c0 := cell_of_heap hbx 0; have c1 := cell_of_heap hbx 1; have c2 := cell_of_heap hbx 2; have hwd : (writeS s (k : Int) u).dur = s.dur := (by rw [TW.out.2.2]); have hwv : (writeS s (k : Int) u).vis = over s.vis k (strL u) := (by rw [TW.out.2.2]); have HV := Aside0.mk (And.intro hwd hwv); clear hwd hwv; have HB2 := Aside0.mk hbx; clear hbx) | (have G_ := TF; clear G_; go_at_call 23; refine (put_calls _ gb n k s.vis u (TF.out.below (below_alloc (Below.refl _ Wf) (.cells #[.int .i64 k, .string u, .bool false] 42))).row HC.out.vis hku hn2).mono ?_; rintro e Wp ⟨rfl, q1, q2, q3⟩; have L1 := TF.out.below (below_alloc (Below.refl _ Wf) (.cells #[.int .i64 k, .string u, .bool false] 42)); have hbx := L1.boxPut q2 (heap_alloc_new Wf (.cells #[.int .i64 k, .string u, .bool false] 42)); have TP := Aside0.mk (L1.put q1 q2 q3); clear q1 q2 q3 L1; have c0 := cell_of_heap hbx 0; have c1 := cell_of_heap hbx 1; have c2 := cell_of_heap hbx 2; have HB := Aside0.mk hbx; clear hbx) | (go_at_call 22; refine (fits_calls _ po ps false n hrg (by omega)).mono ?_; rintro e Wf ⟨k, u, hku, rfl, hbf⟩; have TF := Aside0.mk (HLS.out.below hbf); clear hbf c0 c1 c2))
          go_roundg (60 - i)
          case rel => exact ⟨i + 1, _, _, by rw [HV.out.1], by simp <;> (first | omega | (unfold wrap64; omega)), ⟨by omega, by omega, by omega, by rw [HV.out.2]; exact TW.out.1, TW.out.2.1⟩⟩
          case measure => have := HI.out.2.2.1; omega
        · go_wp2_with (first | (have G_ := TW; clear G_; go_at_call 19; refine (sync_calls TW.out.1.dk).mono ?_; rintro e Ws ⟨rfl, pv2, hst⟩; have hbx := TW.out.1.boxStep hst HB2.out; have hcs := TW.out.2.1.sync; have TS := Aside0.mk (And.intro (TW.out.1.step hst) (And.intro hcs.2.2 hcs.2.1)); rw [hcs.1]; clear hst hcs c0 c1 c2; have c0 := cell_of_heap hbx 0; have c1 := cell_of_heap hbx 1; have c2 := cell_of_heap hbx 2; clear hbx; have hsd : (syncS (writeS s (k : Int) u)).dur = over s.vis k (strL u) := (by rw [TS.out.2.2]; exact HV.out.2); have hsv : (syncS (writeS s (k : Int) u)).vis = over s.vis k (strL u) := (by rw [TS.out.2.2]; exact HV.out.2); have HV2 := Aside0.mk (And.intro hsd hsv); clear hsd hsv; have hcv := bytes_to_string TS.out.1.row 0 n n (by rw [over_length (by rw [strL_length, HC.out.vis]; exact hku), HC.out.vis]; omega); rw [List.drop_zero, List.take_of_length_le (by rw [over_length (by rw [strL_length, HC.out.vis]; exact hku), HC.out.vis]; exact Nat.le_refl _)] at hcv) | (have G_ := TP; clear G_; go_at_call 17; refine (write_calls TP.out.dk (by rw [HC.out.left]; omega) (by have := HC.out.pend; omega) (k : Int) u).mono ?_; rintro e Ww ⟨rfl, pv1, hst⟩; have hbx := TP.out.boxStep hst HB.out; have hcw := HC.out.write k u hku; have TW := Aside0.mk (And.intro (TP.out.step hst) (And.intro hcw.2.2 hcw.2.1)); rw [hcw.1]; clear hst hcw c0 c1 c2; have c0 := cell_of_heap hbx 0; have c1 := cell_of_heap hbx 1; have c2 := cell_of_heap hbx 2; have hwd : (writeS s (k : Int) u).dur = s.dur := (by rw [TW.out.2.2]); have hwv : (writeS s (k : Int) u).vis = over s.vis k (strL u) := (by rw [TW.out.2.2]); have HV := Aside0.mk (And.intro hwd hwv); clear hwd hwv; have HB2 := Aside0.mk hbx; clear hbx) | (have G_ := TF; clear G_; go_at_call 23; refine (put_calls _ gb n k s.vis u (TF.out.below (below_alloc (Below.refl _ Wf) (.cells #[.int .i64 k, .string u, .bool true] 42))).row HC.out.vis hku hn2).mono ?_; rintro e Wp ⟨rfl, q1, q2, q3⟩; have L1 := TF.out.below (below_alloc (Below.refl _ Wf) (.cells #[.int .i64 k, .string u, .bool true] 42)); have hbx := L1.boxPut q2 (heap_alloc_new Wf (.cells #[.int .i64 k, .string u, .bool true] 42)); have TP := Aside0.mk (L1.put q1 q2 q3); clear q1 q2 q3 L1; have c0 := cell_of_heap hbx 0; have c1 := cell_of_heap hbx 1; have c2 := cell_of_heap hbx 2; have HB := Aside0.mk hbx; clear hbx) | (go_at_call 22; refine (fits_calls _ po ps true n hrg (by omega)).mono ?_; rintro e Wf ⟨k, u, hku, rfl, hbf⟩; have TF := Aside0.mk (HLS.out.below hbf); clear hbf c0 c1 c2))
          go_roundg (60 - i)
          case rel => exact ⟨i + 1, _, _, by rw [HV2.out.1], by simp <;> (first | omega | (unfold wrap64; omega)), ⟨by omega, by omega, by omega, by rw [HV2.out.2]; exact TS.out.1, TS.out.2.1⟩⟩
          case measure => have := HI.out.2.2.1; omega
      · have d1 : decide ((i : Int) < (l.length : Int)) = true := decide_eq_true (by omega)
        have d2 : decide ((i : Int) < 60) = false := decide_eq_false (by omega)
        go_wp2_with (first | (have G_ := TC; clear G_; go_at_call 16; refine (pending_calls TC.out.1.dk).mono ?_; rintro e W_ ⟨rfl, hW⟩; subst hW; dsimp only [List.length_nil]) | (have G_ := TC; clear G_; go_at_call 13; refine (read_calls TC.out.1.dk 0 (n : Int)).mono ?_; rintro e W_ ⟨rfl, hW⟩; subst hW; rw [TC.out.2.read.1, TC.out.2.read.2]) | (go_at_call 21; refine (crash_empty HI.out.2.2.2.1.dk HI.out.2.2.2.2 torn).mono ?_; rintro e Wc ⟨rfl, pv9, hst⟩; have TC := Aside0.mk (And.intro (HI.out.2.2.2.1.step hst) HI.out.2.2.2.2.settled); clear hst))
        go_returns
        exact ⟨rfl, TC.out.1.bel⟩
    · have d1 : decide ((i : Int) < (l.length : Int)) = false := decide_eq_false (by omega)
      go_wp2_with (first | (have G_ := TC; clear G_; go_at_call 16; refine (pending_calls TC.out.1.dk).mono ?_; rintro e W_ ⟨rfl, hW⟩; subst hW; dsimp only [List.length_nil]) | (have G_ := TC; clear G_; go_at_call 13; refine (read_calls TC.out.1.dk 0 (n : Int)).mono ?_; rintro e W_ ⟨rfl, hW⟩; subst hW; rw [TC.out.2.read.1, TC.out.2.read.2]) | (go_at_call 21; refine (crash_empty HI.out.2.2.2.1.dk HI.out.2.2.2.2 torn).mono ?_; rintro e Wc ⟨rfl, pv9, hst⟩; have TC := Aside0.mk (And.intro (HI.out.2.2.2.1.step hst) HI.out.2.2.2.2.settled); clear hst))
      go_returns
      exact ⟨rfl, TC.out.1.bel⟩
end Go.Proofs.Ytmonlhgfgnfbdaa
