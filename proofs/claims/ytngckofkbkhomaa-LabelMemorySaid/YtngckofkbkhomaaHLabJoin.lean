/- label.Join: what it answers. -/
import Derived.Test.YtngckofkbkhomaaHLabSort
import Derived.Test.YtngckofkbkhomaaHLabSpec
import Derived.Deep.RegionHeld3
namespace Go.Proofs.Ytngckofkbkhomaa
open Go.RowKit Go.Lib Go.Proofs.Ytngckofkbkhomaa.PBase Go.Proofs.YtngckofkbkhomaaW.PrintWords Go.Proofs.YtngckofkbkhomaaW.PrintLast Go.Proofs.YtngckofkbkhomaaW.PrintMore
set_option linter.unusedVariables false
set_option linter.unusedSimpArgs false
/-- a label's value -/
def lv (x : Lab) (A : Option Addr) (c : Nat) : Value := .agg #[.int .i64 x.u, .slice A x.after.length c, .int .i64 x.ap, .int .i64 x.den]
theorem valid_calls (x : Lab) (A : Option Addr) (c : Nat) (w : World) (hr : Kd.C (Kd.int .i64) w A x.after.length x.after) (hc : x.after.length ≤ c) :
    Calls Try.prog 16 #[.agg #[.int .i64 x.u, .slice A x.after.length c, .int .i64 x.ap, .int .i64 x.den]] w fun e w' => e = .returned (.bool (Lab.valid x)) ∧ Below w.heap.size w w' := by
  obtain ⟨k, hk⟩ := (valid_ev x hr.2.1).rounds
  exact label_Valid.calls k x.u A c x.after x.ap x.den _ w hr hc hk

/-- the three variables in memory: the two labels and the result, and nothing below turned -/
structure JW (w : World) (x y : Array Value) (W : World) : Prop where
  b0 : W.heap[w.heap.size]? = some (.cells x 26 (0, 0))
  b1 : W.heap[w.heap.size + 1]? = some (.cells y 26 (0, 0))
  b2 : W.heap[w.heap.size + 1 + 1]? = some (.cells #[.int .i64 0, .slice none 0 0, .int .i64 0, .int .i64 0] 26 (0, 0))
  bel : Below w.heap.size w W
theorem JW.step {w W W' : World} {x y : Array Value} (h : JW w x y W) (hb : Below W.heap.size W W') : JW w x y W' := by
  have l0 := (Array.getElem?_eq_some_iff.1 h.b0).1
  have l1 := (Array.getElem?_eq_some_iff.1 h.b1).1
  have l2 := (Array.getElem?_eq_some_iff.1 h.b2).1
  exact ⟨(hb.block _ l0).trans h.b0, (hb.block _ l1).trans h.b1, (hb.block _ l2).trans h.b2, h.bel.trans (hb.mono h.bel.size)⟩
theorem JW.start (w : World) (x y : Array Value) : JW w x y (((w.alloc (.cells x 26)).alloc (.cells y 26)).alloc (.cells #[.int .i64 0, .slice none 0 0, .int .i64 0, .int .i64 0] 26)) := by
  refine ⟨?_, ?_, ?_, ?_⟩
  · simp [World.alloc, -World.alloc_eq, Array.getElem?_push]
    omega
  · simp [World.alloc, -World.alloc_eq, Array.getElem_push]
  · simp [World.alloc, -World.alloc_eq, Array.getElem_push]
  · exact below_alloc (below_alloc (below_alloc (Below.refl _ _) _) _) _
theorem JW.grown {w W W' : World} {x y : Array Value} {row : Option Nat} (h : JW w x y W) (hg : W.grownBy W' row) (hr : ∀ k, row = some k → w.heap.size + 3 ≤ k) : JW w x y W' := by
  have l0 := (Array.getElem?_eq_some_iff.1 h.b0).1
  have l1 := (Array.getElem?_eq_some_iff.1 h.b1).1
  have l2 := (Array.getElem?_eq_some_iff.1 h.b2).1
  have ne : ∀ k, k < w.heap.size + 3 → some k ≠ row := fun k hk e => by have := hr k e.symm; omega
  exact ⟨(hg.block _ l0 (ne _ (by omega))).trans h.b0, (hg.block _ l1 (ne _ (by omega))).trans h.b1, (hg.block _ l2 (ne _ (by omega))).trans h.b2,
    h.bel.grown hg h.bel.size (fun k e => by have := hr k e; omega)⟩
theorem JW.size {w W : World} {x y : Array Value} (h : JW w x y W) : w.heap.size + 3 ≤ W.heap.size := by
  have l2 := (Array.getElem?_eq_some_iff.1 h.b2).1
  omega
theorem own_form3 {w : World} {base n : Nat} {v : Value} {xs : List Value} (h : w.ownsRow base 3 1 v n xs) : ∃ A m c, v = .slice A m c := by
  rcases h.2 with ⟨rfl, _⟩ | ⟨g, cap, cur, rfl, _⟩
  · exact ⟨none, 0, 0, rfl⟩
  · exact ⟨_, _, cap, rfl⟩
theorem mx_max (a b : Int) : Lab.mx a b = max a b := by unfold Lab.mx; split <;> omega
theorem join_row {W : World} {base b : Nat} {v v0 v1 v2 v3 : Value} {l : List Int} (h : W.ownsRow (base + 3) 3 1 v l.length (nums .i64 l)) (hb : b < base + 3) :
    Kd.R (Kd.int .i64) 3 ((((W.setCell ⟨b, 0, none⟩ v0).setCell ⟨b, 1, none⟩ v1).setCell ⟨b, 2, none⟩ v2).setCell ⟨b, 3, none⟩ v3) base (fun _ => True) v l := by
  have hk : ∀ k, v.ownBlock = some k → k ≠ b := fun k hk => by have := own_base h k hk; omega
  have hR : Kd.R (Kd.int .i64) 3 W base (fun k => k ≠ b) v l := Kd.R_of_own (own_weaken h (by omega)) hk
  exact Kd.R_mono (Kd.R_far (p := ⟨b, 3, none⟩) (Kd.R_far (p := ⟨b, 2, none⟩) (Kd.R_far (p := ⟨b, 1, none⟩) (Kd.R_far (p := ⟨b, 0, none⟩) hR (fun _ h => h) _) (fun _ h => h) _) (fun _ h => h) _) (fun _ h => h) _) (fun _ _ => trivial)
theorem asc_len : ∀ (l : List Int) (lo hi : Int), Lab.asc l → (∀ n ∈ l, lo ≤ n ∧ n ≤ hi) → (l.length : Int) ≤ max (hi - lo + 1) 0
  | [], _, _, _, _ => by simp; omega
  | x :: l, lo, hi, ha, h => by
    have hx := h x (by simp)
    have := asc_len l (x + 1) hi (List.pairwise_cons.1 ha).2 (fun n hn => ⟨by have := (List.pairwise_cons.1 ha).1 n hn; omega, (h n (List.mem_cons_of_mem _ hn)).2⟩)
    simp only [List.length_cons]
    omega
theorem ok_len {x : Lab} (h : Lab.valid x = true) : x.after.length ≤ 64 := by
  have ho := Lab.valid_iff.1 h
  have := asc_len x.after 1 64 ho.2.2.2.1 ho.2.2.1
  omega
theorem cell_of_heap {W : World} {b : Nat} {cs : Array Value} {t : TypeId} {fr : Nat × Nat} (h : W.heap[b]? = some (.cells cs t fr)) (j : Nat) : W.cell? ⟨b, j, none⟩ = cs[j]? := by
  simp [World.cell?, h]
theorem frozen_of_heap {W : World} {b : Nat} {cs : Array Value} {t : TypeId} (h : W.heap[b]? = some (.cells cs t (0, 0))) (j : Nat) : W.frozen? ⟨b, j, none⟩ = false := by
  simp [World.frozen?, h]
theorem put4 {W : World} {b : Nat} {t : TypeId} {a0 a1 a2 a3 v0 v1 v2 v3 : Value} (h : W.heap[b]? = some (.cells #[a0, a1, a2, a3] t (0, 0))) :
    ((((W.setCell ⟨b, 0, none⟩ v0).setCell ⟨b, 1, none⟩ v1).setCell ⟨b, 2, none⟩ v2).setCell ⟨b, 3, none⟩ v3).heap[b]? = some (.cells #[v0, v1, v2, v3] t (0, 0)) :=
  blk_put (cs := #[v0, v1, v2, a3]) (blk_put (cs := #[v0, v1, a2, a3]) (blk_put (cs := #[v0, a1, a2, a3]) (blk_put (cs := #[a0, a1, a2, a3]) h 0 _ rfl) 1 _ rfl) 2 _ rfl) 3 _ rfl
set_option maxHeartbeats 8000000 in
set_option maxRecDepth 100000 in
theorem join_calls (x y : Lab) (A1 A2 : Option Addr) (c1 c2 : Nat) (w : World) (hr1 : Kd.C (Kd.int .i64) w A1 x.after.length x.after) (hc1 : x.after.length ≤ c1) (hr2 : Kd.C (Kd.int .i64) w A2 y.after.length y.after) (hc2 : y.after.length ≤ c2) :
    Calls Try.prog 22 #[.agg #[.int .i64 x.u, .slice A1 x.after.length c1, .int .i64 x.ap, .int .i64 x.den], .agg #[.int .i64 y.u, .slice A2 y.after.length c2, .int .i64 y.ap, .int .i64 y.den]] w fun e w' =>
      ∃ v, e = .returned (.agg #[.int .i64 (Lab.join x y).u, v, .int .i64 (Lab.join x y).ap, .int .i64 (Lab.join x y).den]) ∧ Kd.R (Kd.int .i64) 3 w' w.heap.size (fun _ => True) v (Lab.join x y).after ∧ Below w.heap.size w w' := by
  have hu := Try.underlying26
  have HR1 := Aside0.mk hr1
  have HR2 := Aside0.mk hr2
  have HV1 := fun W hb => valid_calls x A1 c1 W (Kd.C_below (w1 := W) hr1 hb) hc1
  have HV2 := fun W hb => valid_calls y A2 c2 W (Kd.C_below (w1 := W) hr2 hb) hc2
  have HA1 := Aside0.mk HV1
  have HA2 := Aside0.mk HV2
  clear hr1 hr2 HV1 HV2
  cases h1 : Lab.valid x with
  | false =>
    rw [show Lab.join x y = Lab.zero by simp [Lab.join, h1]]
    go_enter Try.func22, Try.ntmps22
    go_wp2_with (go_at_call 16; refine (HA1.out _ (JW.start w _ _).bel).mono ?_; rintro e w1 ⟨rfl, hb⟩; rw [h1]; have HJ := Aside0.mk ((JW.start w _ _).step hb); have z0 := cell_of_heap HJ.out.b2 0; have z1 := cell_of_heap HJ.out.b2 1; have z2 := cell_of_heap HJ.out.b2 2; have z3 := cell_of_heap HJ.out.b2 3; have f0 := frozen_of_heap HJ.out.b2 0; have f1 := frozen_of_heap HJ.out.b2 1; have f2 := frozen_of_heap HJ.out.b2 2; have f3 := frozen_of_heap HJ.out.b2 3; clear hb)
    refine bodyPost_ret (results_cell_row rfl _ _ (w.heap.size + 1 + 1) 26 #[.int .i64 0, .slice none 0 0, .int .i64 0, .int .i64 0] (0, 0) _ rfl (put4 HJ.out.b2) Try.underlying26 rfl (by kernel_rfl)) rfl ?_
    exact ⟨_, rfl, Kd.R_nil _ _ _ _ _, below_set (below_set (below_set (below_set HJ.out.bel (by omega)) (by omega)) (by omega)) (by omega)⟩
  | true =>
    cases h2 : Lab.valid y with
    | false =>
      rw [show Lab.join x y = Lab.zero by simp [Lab.join, h2]]
      go_enter Try.func22, Try.ntmps22
      go_wp2_with (first | (have HK_ := HK; clear HK_; go_at_call 16; with_reducible refine (HA2.out _ HK.out.bel).mono ?_; rintro e w1 ⟨rfl, hb⟩; rw [h2]; have HJ := Aside0.mk (HK.out.step hb); have z0 := cell_of_heap HJ.out.b2 0; have z1 := cell_of_heap HJ.out.b2 1; have z2 := cell_of_heap HJ.out.b2 2; have z3 := cell_of_heap HJ.out.b2 3; have f0 := frozen_of_heap HJ.out.b2 0; have f1 := frozen_of_heap HJ.out.b2 1; have f2 := frozen_of_heap HJ.out.b2 2; have f3 := frozen_of_heap HJ.out.b2 3; clear hb) | (go_at_call 16; with_reducible refine (HA1.out _ (JW.start w _ _).bel).mono ?_; rintro e w0 ⟨rfl, hb⟩; rw [h1]; have HK := Aside0.mk ((JW.start w _ _).step hb); have y0 := cell_of_heap HK.out.b1 0; have y1 := cell_of_heap HK.out.b1 1; have y2 := cell_of_heap HK.out.b1 2; have y3 := cell_of_heap HK.out.b1 3; clear hb))
      refine bodyPost_ret (results_cell_row rfl _ _ (w.heap.size + 1 + 1) 26 #[.int .i64 0, .slice none 0 0, .int .i64 0, .int .i64 0] (0, 0) _ rfl (put4 HJ.out.b2) Try.underlying26 rfl (by kernel_rfl)) rfl ?_
      exact ⟨_, rfl, Kd.R_nil _ _ _ _ _, below_set (below_set (below_set (below_set HJ.out.bel (by omega)) (by omega)) (by omega)) (by omega)⟩
    | true =>
      have hl1 := ok_len h1
      have hl2 := ok_len h2
      rw [Lab.join_of (Lab.valid_iff.1 h1) (Lab.valid_iff.1 h2)]
      go_enter Try.func22, Try.ntmps22
      go_wp2_with (first | (have HK_ := HK; clear HK_; go_at_call 16; with_reducible refine (HA2.out _ HK.out.bel).mono ?_; rintro e w1 ⟨rfl, hb⟩; rw [h2]; have HJ := Aside0.mk (HK.out.step hb); clear y0 y1 y2 y3; have y1 := cell_of_heap HJ.out.b1 1; have x1 := cell_of_heap HJ.out.b0 1; clear hb) | (have HX_ := HJ2; clear HX_; go_at_call 35; with_reducible refine (sort_own (w.heap.size + 3) _ (x.after ++ y.after) w2 HO.out HJ2.out.size (by simp; omega)).mono ?_; rintro e w3 ⟨rfl, ho3, hg3⟩; have HJ3 := Aside0.mk (HJ2.out.grown hg3 (fun k hk => own_base HO.out k hk)); have HO3 := Aside0.mk ho3; clear ho3 hg3) | (have HX_ := HJ; clear HX_; go_at_call 34; with_reducible refine (concat_calls w1.heap.size A1 A2 c1 c2 x.after y.after _ (cell_of_heap (heap_alloc_new w1 _) 0) (cell_of_heap (heap_alloc_new w1 _) 1) (by simp) (Kd.C_below HR1.out (below_alloc HJ.out.bel _)) (Kd.C_below HR2.out (below_alloc HJ.out.bel _)) (by omega) (by omega)).mono ?_; rintro e w2 ⟨v, rfl, ho, hb⟩; obtain ⟨A5, n5, c5, rfl⟩ := own_form3 ho; have HJ2 := Aside0.mk ((HJ.out.step (below_alloc (Below.refl _ _) _)).step hb); have HO := Aside0.mk (own_weaken ho (by have := HJ.out.size; simp; omega : w.heap.size + 3 ≤ _)); clear ho hb) | (go_at_call 16; with_reducible refine (HA1.out _ (JW.start w _ _).bel).mono ?_; rintro e w0 ⟨rfl, hb⟩; rw [h1]; have HK := Aside0.mk ((JW.start w _ _).step hb); have y0 := cell_of_heap HK.out.b1 0; have y1 := cell_of_heap HK.out.b1 1; have y2 := cell_of_heap HK.out.b1 2; have y3 := cell_of_heap HK.out.b1 3; clear hb))
      have x0 := cell_of_heap HJ3.out.b0 0
      have x2 := cell_of_heap HJ3.out.b0 2
      have x3 := cell_of_heap HJ3.out.b0 3
      clear y1 x1
      have y0 := cell_of_heap HJ3.out.b1 0
      have y2 := cell_of_heap HJ3.out.b1 2
      have y3 := cell_of_heap HJ3.out.b1 3
      have z0 := cell_of_heap HJ3.out.b2 0
      have z1 := cell_of_heap HJ3.out.b2 1
      have z2 := cell_of_heap HJ3.out.b2 2
      have z3 := cell_of_heap HJ3.out.b2 3
      have f0 := frozen_of_heap HJ3.out.b2 0
      have f1 := frozen_of_heap HJ3.out.b2 1
      have f2 := frozen_of_heap HJ3.out.b2 2
      have f3 := frozen_of_heap HJ3.out.b2 3
      have n1 : ¬ w.heap.size = w.heap.size + 1 + 1 := by omega
      have n2 : ¬ w.heap.size + 1 = w.heap.size + 1 + 1 := by omega
      have n3 : ¬ w.heap.size + 1 + 1 = w.heap.size := by omega
      have n4 : ¬ w.heap.size + 1 + 1 = w.heap.size + 1 := by omega
      go_region_held3 (fun W => W.cell? ⟨w.heap.size, 0, none⟩ = some (.int .i64 x.u) ∧ W.cell? ⟨w.heap.size, 2, none⟩ = some (.int .i64 x.ap) ∧ W.cell? ⟨w.heap.size, 3, none⟩ = some (.int .i64 x.den) ∧ W.cell? ⟨w.heap.size + 1, 0, none⟩ = some (.int .i64 y.u) ∧ W.cell? ⟨w.heap.size + 1, 2, none⟩ = some (.int .i64 y.ap) ∧ W.cell? ⟨w.heap.size + 1, 3, none⟩ = some (.int .i64 y.den)) (go_keep)
        (first | (go_at_call 36; refine (compact_own (w.heap.size + 3) _ (sorted (x.after ++ y.after)) w3.drew HO3.out (by have := HJ3.out.size; exact Nat.le_trans (by omega) this) (by simp; omega)).mono ?_; rintro e w4 ⟨he4, ho4, hg4⟩; change e = .returned (.slice A5 _ c5) at he4; subst he4; have HJ4 := Aside0.mk ((HJ3.out.step (below_drew1 (Below.refl _ _))).grown hg4 (fun k hk => own_base HO3.out k hk)); have HO4 := Aside0.mk ho4; clear ho4 hg4 x0 x2 x3 y0 y2 y3 z0 z1 z2 z3 f0 f1 f2 f3; have x0 := cell_of_heap HJ4.out.b0 0; have x2 := cell_of_heap HJ4.out.b0 2; have x3 := cell_of_heap HJ4.out.b0 3; have y0 := cell_of_heap HJ4.out.b1 0; have y2 := cell_of_heap HJ4.out.b1 2; have y3 := cell_of_heap HJ4.out.b1 3; have z0 := cell_of_heap HJ4.out.b2 0; have z1 := cell_of_heap HJ4.out.b2 1; have z2 := cell_of_heap HJ4.out.b2 2; have z3 := cell_of_heap HJ4.out.b2 3; have f0 := frozen_of_heap HJ4.out.b2 0; have f1 := frozen_of_heap HJ4.out.b2 1; have f2 := frozen_of_heap HJ4.out.b2 2; have f3 := frozen_of_heap HJ4.out.b2 3))
      all_goals go_wp2
      all_goals refine bodyPost_ret (results_cell_row rfl _ _ (w.heap.size + 1 + 1) 26 #[.int .i64 (max x.u y.u), .slice A5 (compact (sorted (x.after ++ y.after))).length c5, .int .i64 (max x.ap y.ap), .int .i64 (bits BinOp.or IntKind.i64 x.den y.den)] (0, 0) _ rfl (put4 HJ4.out.b2) Try.underlying26 rfl (by kernel_rfl)) rfl ?_
      all_goals rw [mx_max, mx_max]
      all_goals exact ⟨_, rfl, join_row HO4.out (by omega), below_set (below_set (below_set (below_set HJ4.out.bel (by omega)) (by omega)) (by omega)) (by omega)⟩
end Go.Proofs.Ytngckofkbkhomaa
