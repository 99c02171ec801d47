/- copydesklaw02.Raw: the label of any fields. -/
import Derived.Test.YtngckofkbkhomaaHLabAppend
namespace Go.Proofs.Ytngckofkbkhomaa
open Go.RowKit Go.Lib Go.Proofs.YtngckofkbkhomaaW.PrintWords
set_option linter.unusedVariables false
set_option linter.unusedSimpArgs false
set_option maxHeartbeats 8000000 in
set_option maxRecDepth 100000 in
theorem raw_calls (x0 x1 x2 x3 : Int) (A : Option Addr) (c : Nat) (l : List Int) (w : World) (hr : Kd.C (Kd.int .i64) w A l.length l) (hc : l.length ≤ c) (hcm : c ≤ 9223372036854775807) :
    Calls Try.prog 15 #[.agg #[.int .i64 x0, .int .i64 x1, .int .i64 x2, .int .i64 x3], .slice A l.length c] w fun e w' =>
      ∃ E m, e = .returned (.agg #[.int .i64 x0, .slice E (l.take 80).length m, .int .i64 x2, .int .i64 x3]) ∧ (l.take 80).length ≤ m ∧ Kd.C (Kd.int .i64) w' E (l.take 80).length (l.take 80) ∧ Below w.heap.size w w' := by
  have hu := Try.underlying26
  have hu2 := Try.underlying22
  obtain ⟨l80, hl80⟩ : ∃ l', l.take 80 = l' := ⟨_, rfl⟩
  rw [hl80]
  have HR := Aside0.mk hr
  have hlm := Kd.C_max hr
  clear hr
  obtain ⟨n, hn⟩ : ∃ n, min l.length 80 = n := ⟨_, rfl⟩
  have hm : min (l.length : Int) 80 = (n : Int) := by omega
  have hn0 : (0 : Int) ≤ (n : Int) := by omega
  have hnl : n ≤ l.length := by omega
  have hnc : n ≤ c := by omega
  have hn80 : n ≤ 80 := by omega
  have hnl' : (n : Int) ≤ (l.length : Int) := by omega
  have hnc' : (n : Int) ≤ (c : Int) := by omega
  have ht : l.take n = l80 := by
    rw [← hl80]
    rcases Nat.le_total l.length 80 with h | h
    · rw [List.take_of_length_le (by omega), List.take_of_length_le h]
    · rw [show n = 80 by omega]
  clear hn hl80
  go_enter Try.func15, Try.ntmps15
  go_upto_region 2 with fail
  have SB := St.box (St.box (St.add (St.start w) HR.out) #[.int .i64 x0, .int .i64 x1, .int .i64 x2, .int .i64 x3] 22) #[.int .i64 0, .slice none 0 0, .int .i64 0, .int .i64 0] 26
  simp only [World.size_alloc] at SB
  generalize (w.alloc (.cells #[.int .i64 x0, .int .i64 x1, .int .i64 x2, .int .i64 x3] 22)).alloc (.cells #[.int .i64 0, .slice none 0 0, .int .i64 0, .int .i64 0] 26) = W0 at SB ⊢
  have SD := Aside0.mk (St.drew SB)
  clear SB
  have K : Aside0 (∀ (L : List (Option Addr × List Int)) (W : World), St w L [(w.heap.size + 1, #[.int .i64 0, .slice none 0 0, .int .i64 0, .int .i64 0], 26), (w.heap.size, #[.int .i64 x0, .int .i64 x1, .int .i64 x2, .int .i64 x3], 22)] W → W.cell? ⟨w.heap.size, 0, none⟩ = some (.int .i64 x0) ∧ W.cell? ⟨w.heap.size, 2, none⟩ = some (.int .i64 x2) ∧ W.cell? ⟨w.heap.size, 3, none⟩ = some (.int .i64 x3)) := Aside0.mk (fun L W h => ⟨h.cell (b := w.heap.size) (cs := #[.int .i64 x0, .int .i64 x1, .int .i64 x2, .int .i64 x3]) (t := 22) (by simp) 0, h.cell (b := w.heap.size) (cs := #[.int .i64 x0, .int .i64 x1, .int .i64 x2, .int .i64 x3]) (t := 22) (by simp) 2, h.cell (b := w.heap.size) (cs := #[.int .i64 x0, .int .i64 x1, .int .i64 x2, .int .i64 x3]) (t := 22) (by simp) 3⟩)
  have hmk : ∀ w, (Instr.makeSlice 23 (.int .i64 0) (.int .i64 (n : Int))).run Try.prog w = .ok (.slice (some ⟨w.heap.size, 0, none⟩) 0 n) (w.alloc (.cells (madeCells #[.int .i64 0] n) 3)) := make_ints n (by omega)
  refine wp_region_held_drew (S := (fun W => W.cell? ⟨w.heap.size, 0, none⟩ = some (.int .i64 x0) ∧ W.cell? ⟨w.heap.size, 2, none⟩ = some (.int .i64 x2) ∧ W.cell? ⟨w.heap.size, 3, none⟩ = some (.int .i64 x3))) (by kernel_rfl) (by (try dsimp only); (with_reducible exact K.out _ _ SD.out)) (fun hHeld => ?_)
  obtain ⟨WD, hWD⟩ : ∃ W, W0.drew = W := ⟨_, rfl⟩
  rw [hWD] at SD hHeld ⊢
  first | refine reg_tk 0 ?_ | refine reg_sk 0 ?_ | fail
  (try simp only [Act.put, List.setIfInBounds_toArray, List.set_cons_zero, List.set_cons_succ])
  first | refine reg_tk 1 ?_ | refine reg_sk 1 ?_ | fail
  (try simp only [Act.put, List.setIfInBounds_toArray, List.set_cons_zero, List.set_cons_succ])
  first | refine reg_tk 2 ?_ | refine reg_sk 2 ?_ | fail
  (try simp only [Act.put, List.setIfInBounds_toArray, List.set_cons_zero, List.set_cons_succ])
  first | refine reg_tk 3 ?_ | refine reg_sk 3 ?_ | fail
  (try simp only [Act.put, List.setIfInBounds_toArray, List.set_cons_zero, List.set_cons_succ])
  first | refine reg_tk 5 ?_ | refine reg_sk 5 ?_ | fail
  (try simp only [Act.put, List.setIfInBounds_toArray, List.set_cons_zero, List.set_cons_succ])
  first | refine reg_tk 7 ?_ | refine reg_sk 7 ?_ | fail
  (try simp only [Act.put, List.setIfInBounds_toArray, List.set_cons_zero, List.set_cons_succ])
  first | refine reg_tk 8 ?_ | refine reg_sk 8 ?_ | fail
  (try simp only [Act.put, List.setIfInBounds_toArray, List.set_cons_zero, List.set_cons_succ])
  first | refine reg_tk 9 ?_ | refine reg_sk 9 ?_ | fail
  (try simp only [Act.put, List.setIfInBounds_toArray, List.set_cons_zero, List.set_cons_succ])
  first | refine reg_tk 10 ?_ | refine reg_sk 10 ?_ | fail
  (try simp only [Act.put, List.setIfInBounds_toArray, List.set_cons_zero, List.set_cons_succ])
  refine reg_one 4 (fun KK_ hKK_ => ?_)
  go_simp
  have HO := own_made n (by omega) WD
  have HB : Below WD.heap.size WD (WD.alloc (.cells (madeCells #[.int .i64 0] n) 3)) := below_alloc (Below.refl _ _) _
  generalize WD.alloc (.cells (madeCells #[.int .i64 0] n) 3) = W1 at HO HB ⊢
  generalize (Value.slice (some ⟨WD.heap.size, 0, none⟩) 0 n) = q0 at HO ⊢
  refine hKK_.out _ _ (K.out _ _ (SD.out.step HB)) (fun hHeld => ?_)
  clear hKK_ KK_
  (try simp only [Act.put, List.setIfInBounds_toArray, List.set_cons_zero, List.set_cons_succ])
  refine reg_one 6 (fun KK_ hKK_ => ?_)
  have HR1 : Kd.C (Kd.int .i64) W1 A n (l.take n) := by
    have h := Kd.C_take (Kd.C_below (SD.out.get (A := A) (l := l) (by simp)) HB) (m := n) (by omega)
    rwa [List.length_take, Nat.min_eq_left (by omega)] at h
  refine wp_append_ints (base := WD.heap.size) (xs := []) (ys := l.take n) rfl rfl rfl rfl HO HR1 HB.size (by simp only [List.length_nil]; omega) ?_
  intro q1 W2 HO2 hb2
  rw [List.nil_append, ht] at HO2
  obtain ⟨E, m, rfl, hml, hC, hE⟩ := own_reads2 HO2
  have HB2 := HB.trans hb2
  refine hKK_.out _ _ (K.out _ _ (SD.out.step HB2)) (fun hHeld => ?_)
  clear hKK_ KK_ HO hb2 HR1
  (try simp only [Act.put, List.setIfInBounds_toArray, List.set_cons_zero, List.set_cons_succ])
  first | refine reg_tk 11 ?_ | refine reg_sk 11 ?_ | fail
  (try simp only [Act.put, List.setIfInBounds_toArray, List.set_cons_zero, List.set_cons_succ])
  refine reg_one 12 (fun KK_ hKK_ => ?_)
  have hbx := SD.out.step HB2
  have z0 := hbx.cell (b := w.heap.size + 1) (cs := #[.int .i64 0, .slice none 0 0, .int .i64 0, .int .i64 0]) (t := 26) (by simp) 0
  have f0 := hbx.frozen (b := w.heap.size + 1) (cs := #[.int .i64 0, .slice none 0 0, .int .i64 0, .int .i64 0]) (t := 26) (by simp) 0
  have z1 := hbx.cell (b := w.heap.size + 1) (cs := #[.int .i64 0, .slice none 0 0, .int .i64 0, .int .i64 0]) (t := 26) (by simp) 1
  have f1 := hbx.frozen (b := w.heap.size + 1) (cs := #[.int .i64 0, .slice none 0 0, .int .i64 0, .int .i64 0]) (t := 26) (by simp) 1
  have z2 := hbx.cell (b := w.heap.size + 1) (cs := #[.int .i64 0, .slice none 0 0, .int .i64 0, .int .i64 0]) (t := 26) (by simp) 2
  have f2 := hbx.frozen (b := w.heap.size + 1) (cs := #[.int .i64 0, .slice none 0 0, .int .i64 0, .int .i64 0]) (t := 26) (by simp) 2
  have z3 := hbx.cell (b := w.heap.size + 1) (cs := #[.int .i64 0, .slice none 0 0, .int .i64 0, .int .i64 0]) (t := 26) (by simp) 3
  have f3 := hbx.frozen (b := w.heap.size + 1) (cs := #[.int .i64 0, .slice none 0 0, .int .i64 0, .int .i64 0]) (t := 26) (by simp) 3
  have HELD := hHeld
  obtain ⟨y0, y2, y3⟩ := HELD
  go_simp
  refine hKK_.out _ _ (by go_keep) (fun hHeld => ?_)
  clear hKK_ KK_
  (try simp only [Act.put, List.setIfInBounds_toArray, List.set_cons_zero, List.set_cons_succ])
  refine wpAnyH_done (by kernel_rfl) ?_ _
  go_wp2
  have hbase : w.heap.size + 1 < WD.heap.size := by
    have h1 := Array.getElem?_eq_some_iff.1 (SD.out.boxes _ (List.mem_cons_self ..)).2
    exact h1.1
  have hb0 : W2.heap[w.heap.size + 1]? = some (.cells #[.int .i64 0, .slice none 0 0, .int .i64 0, .int .i64 0] 26 (0, 0)) := (hbx.boxes _ (List.mem_cons_self ..)).2
  refine bodyPost_ret (results_cell_row rfl _ _ (w.heap.size + 1) 26 #[.int .i64 x0, .slice E l80.length m, .int .i64 x2, .int .i64 x3] (0, 0) _ rfl (put4 hb0) Try.underlying26 rfl (by kernel_rfl)) rfl ?_
  refine ⟨E, m, rfl, hml, ?_, below_set (below_set (below_set (below_set hbx.bel (by omega)) (by omega)) (by omega)) (by omega)⟩
  exact Kd.C_keep (0 : Int) hC (KeepBut.set_ (KeepBut.set_ (KeepBut.set_ (KeepBut.set_ (KeepBut.refl _ _ _) _ _) _ _) _ _) _ _) (fun ad hA _ => by have := hE ad hA; omega)
end Go.Proofs.Ytngckofkbkhomaa
