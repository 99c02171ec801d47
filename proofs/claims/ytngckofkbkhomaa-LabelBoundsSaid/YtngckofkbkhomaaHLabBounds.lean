/- The walk of the law LabelBounds: it tells true. -/
import Derived.Test.YtngckofkbkhomaaHLabSane
import Derived.Deep.RegionHeld3
import Derived.Test.YtngckofkbkhomaaHLabBox
namespace Go.Proofs.Ytngckofkbkhomaa
open Go.RowKit Go.Lib Go.Proofs.Ytngckofkbkhomaa.PBase Go.Proofs.YtngckofkbkhomaaW.PrintWords Go.Proofs.YtngckofkbkhomaaW.PrintLast Go.Proofs.YtngckofkbkhomaaW.PrintMore
set_option linter.unusedVariables false
set_option linter.unusedSimpArgs false
set_option maxHeartbeats 64000000 in
set_option maxRecDepth 100000 in
theorem labelbounds_calls (w : World) (x0 x1 x2 x3 wh n : Int) (hx : Rng x0 ∧ Rng x2 ∧ Rng x3) (hwh : Rng wh) :
    Calls Try.prog 11 #[.agg #[.int .i64 x0, .int .i64 x1, .int .i64 x2, .int .i64 x3], .int .i64 wh, .int .i64 n] w fun e w' => e = .returned (.bool true) ∧ Below w.heap.size w w' := by
  have hu := Try.underlying26
  have hu2 := Try.underlying22
  obtain ⟨hx0, hx2, hx3⟩ := hx
  have S0 := Aside0.mk (St.start w)
  obtain ⟨a, ha⟩ : ∃ a, mk x0 x1 x2 x3 = a := ⟨_, rfl⟩
  have oa := Aside0.mk (ha ▸ mk_ok x0 x1 x2 x3 : Lab.Ok a)
  obtain ⟨r, hr, hr0, hr5⟩ := pick_f wh 5 hwh (by omega)
  have hao := oa.out
  obtain ⟨a1, a2, a3, a4, a5, a6, a7, a8⟩ := hao
  go_enter Try.func11, Try.ntmps11
  go_upto_region 5 with (first | (have G_ := S1; clear G_; go_at_call 14; apply Calls.mono; apply make_st (w := w) x0 x1 x2 x3; exact S1.out; (first | assumption | simp); (first | assumption | simp); (first | assumption | simp); rintro e WS2 ⟨Ea, ma, rfl, hma, h1_⟩; rw [ha] at hma h1_ ⊢; (try simp only [World.size_alloc] at h1_); have S2 := Aside0.mk h1_; clear h1_; clear xc0 xc1 xc2 xc3 xn xm; have xc0 := S2.out.cell (b := w.heap.size) (cs := #[.int .i64 x0, .int .i64 x1, .int .i64 x2, .int .i64 x3]) (t := 22) (by simp) 0; have xc1 := S2.out.cell (b := w.heap.size) (cs := #[.int .i64 x0, .int .i64 x1, .int .i64 x2, .int .i64 x3]) (t := 22) (by simp) 1; have xc2 := S2.out.cell (b := w.heap.size) (cs := #[.int .i64 x0, .int .i64 x1, .int .i64 x2, .int .i64 x3]) (t := 22) (by simp) 2; have xc3 := S2.out.cell (b := w.heap.size) (cs := #[.int .i64 x0, .int .i64 x1, .int .i64 x2, .int .i64 x3]) (t := 22) (by simp) 3; have xn := World.new_ne WS2 ⟨w.heap.size, 0, none⟩ xc0; have xm := fun (o : Obj) (j : Nat) => World.cell?_alloc_lt WS2 o ⟨w.heap.size, j, none⟩ (World.block_lt_of_cell? WS2 ⟨w.heap.size, 0, none⟩ xc0)) | (have G_ := S0; clear G_; go_at_call 13; apply Calls.mono; apply sane_st (w := w); apply St.box; exact S0.out; rintro e WS1 ⟨rfl, h1_⟩; (try simp only [World.size_alloc] at h1_); have S1 := Aside0.mk h1_; clear h1_; have xc0 := S1.out.cell (b := w.heap.size) (cs := #[.int .i64 x0, .int .i64 x1, .int .i64 x2, .int .i64 x3]) (t := 22) (by simp) 0; have xc1 := S1.out.cell (b := w.heap.size) (cs := #[.int .i64 x0, .int .i64 x1, .int .i64 x2, .int .i64 x3]) (t := 22) (by simp) 1; have xc2 := S1.out.cell (b := w.heap.size) (cs := #[.int .i64 x0, .int .i64 x1, .int .i64 x2, .int .i64 x3]) (t := 22) (by simp) 2; have xc3 := S1.out.cell (b := w.heap.size) (cs := #[.int .i64 x0, .int .i64 x1, .int .i64 x2, .int .i64 x3]) (t := 22) (by simp) 3; have xn := World.new_ne WS1 ⟨w.heap.size, 0, none⟩ xc0; have xm := fun (o : Obj) (j : Nat) => World.cell?_alloc_lt WS1 o ⟨w.heap.size, j, none⟩ (World.block_lt_of_cell? WS1 ⟨w.heap.size, 0, none⟩ xc0)))
  have SB := St.box S2.out #[.int .i64 a.u, .slice Ea a.after.length ma, .int .i64 a.ap, .int .i64 a.den] 26
  rw [show WS2.heap.size + 1 = (WS2.alloc (.cells #[.int .i64 a.u, .slice Ea a.after.length ma, .int .i64 a.ap, .int .i64 a.den] 26)).heap.size from (World.size_alloc _ _).symm]
  generalize WS2.alloc (.cells #[.int .i64 a.u, .slice Ea a.after.length ma, .int .i64 a.ap, .int .i64 a.den] 26) = W0 at SB ⊢
  generalize WS2.heap.size = A at SB ⊢
  have SX : Aside0 (St w [(Ea, a.after)] [(A, #[.int .i64 a.u, .slice Ea a.after.length ma, .int .i64 a.ap, .int .i64 a.den], 26)] W0) := Aside0.mk (SB.sub (fun p hp => hp) (by simp))
  clear SB S0 S1 S2
  have va : Lab.valid a = true := Lab.valid_iff.2 oa.out
  have hr' : r = 0 ∨ r = 1 ∨ r = 2 ∨ r = 3 ∨ r = 4 := by omega
  rcases hr' with rfl | rfl | rfl | rfl | rfl
  · obtain ⟨bd, hbd⟩ : ∃ bd : Lab, (⟨n, a.after, a.ap, a.den⟩ : Lab) = bd := ⟨_, rfl⟩
    by_cases h1 : 0 ≤ n
    · by_cases h2 : n ≤ 1000000000
      · have h1' : n ≥ 0 := h1
        have hv : Lab.valid bd = true := by
          subst hbd
          refine Lab.valid_iff.2 ⟨?_, ?_, ?_, ?_, ?_, ?_, ?_, ?_⟩ <;> simp only [Lab.asc, List.mem_cons, List.not_mem_nil, or_false, forall_eq_or_imp, forall_eq, List.pairwise_cons, List.Pairwise.nil, and_true] <;> first | omega | assumption | (refine ⟨?_, ?_⟩ <;> first | omega | (intro x hx; cases hx)) | (intro x hx; cases hx)
        go_upto_region 8 with (go_at_call 27; apply Calls.mono; apply pick_st wh 5 0 hr; rintro e WP ⟨rfl, hd⟩)
        have hbh := bad_heap hd
        have hfr := frozen_of_heap hbh 0
        have hce := cell_of_heap hbh 0
        simp only [List.getElem?_toArray, List.getElem?_cons_zero, List.getElem?_cons_succ] at hce
        go_upto_region 20 with fail
        obtain ⟨EB, hEB⟩ : ∃ E, Ea = E := ⟨_, rfl⟩
        obtain ⟨mB, hmB⟩ : ∃ m, ma = m := ⟨_, rfl⟩
        have SB : St w [(EB, bd.after), (Ea, a.after)] [(W0.heap.size, #[.int .i64 bd.u, .slice EB bd.after.length mB, .int .i64 bd.ap, .int .i64 bd.den], 26), (A, #[.int .i64 a.u, .slice Ea a.after.length ma, .int .i64 a.ap, .int .i64 a.den], 26)] ((WP).setCell ⟨W0.heap.size, 0, none⟩ (.int .i64 n)) := by
          subst hbd hEB hmB
          exact (St.bad SX.out hd 0 (.int .i64 n) rfl).sub (by simp) (fun p hp => hp)
        have hcb : bd.after.length ≤ mB := by
          subst hbd hmB
          first | assumption | simp
        generalize (WP).setCell ⟨W0.heap.size, 0, none⟩ (.int .i64 n) = WT0 at SB ⊢
        have T0 := Aside0.mk SB
        clear SB SX hbd hEB hmB
        obtain ⟨bc0, bc1, bc2, bc3, ac0, ac1, ac2, ac3⟩ := St.cells2 T0.out
        go_wp2_with (first | (have G_ := T1; clear G_; go_at_call 16; apply Calls.mono; with_reducible apply valid_st (w := w) bd; exact T1.out; (first | assumption | simp); (first | assumption | simp); rintro e WT2 ⟨rfl, h1_⟩; (first | rw [hv]); have T2 := Aside0.mk h1_; clear h1_; clear bc0 bc1 bc2 bc3 ac0 ac1 ac2 ac3; obtain ⟨bc0, bc1, bc2, bc3, ac0, ac1, ac2, ac3⟩ := St.cells2 T2.out) | (have G_ := T0; clear G_; go_at_call 16; apply Calls.mono; with_reducible apply valid_st (w := w) a; exact T0.out; (first | assumption | simp); (first | assumption | simp); rintro e WT1 ⟨rfl, h1_⟩; (first | rw [va]); have T1 := Aside0.mk h1_; clear h1_; clear bc0 bc1 bc2 bc3 ac0 ac1 ac2 ac3; obtain ⟨bc0, bc1, bc2, bc3, ac0, ac1, ac2, ac3⟩ := St.cells2 T1.out))
        go_ret
        exact ⟨rfl, T2.out.bel⟩
      · have h1' : n ≥ 0 := h1
        have hd2 : decide (n ≤ 1000000000) = false := decide_eq_false h2
        have hv : Lab.valid bd = false := by
          subst hbd
          rw [Bool.eq_false_iff]
          intro h
          obtain ⟨b1, b2, b3, b4, b5, b6, b7, b8⟩ := Lab.valid_iff.1 h
          simp only [Lab.asc, List.mem_cons, List.not_mem_nil, or_false, forall_eq_or_imp, forall_eq, List.pairwise_cons, List.Pairwise.nil, and_true] at b1 b2 b3 b4 b5 b6 b7 b8
          omega
        go_upto_region 8 with (go_at_call 27; apply Calls.mono; apply pick_st wh 5 0 hr; rintro e WP ⟨rfl, hd⟩)
        have hbh := bad_heap hd
        have hfr := frozen_of_heap hbh 0
        have hce := cell_of_heap hbh 0
        simp only [List.getElem?_toArray, List.getElem?_cons_zero, List.getElem?_cons_succ] at hce
        go_upto_region 20 with fail
        obtain ⟨EB, hEB⟩ : ∃ E, Ea = E := ⟨_, rfl⟩
        obtain ⟨mB, hmB⟩ : ∃ m, ma = m := ⟨_, rfl⟩
        have SB : St w [(EB, bd.after), (Ea, a.after)] [(W0.heap.size, #[.int .i64 bd.u, .slice EB bd.after.length mB, .int .i64 bd.ap, .int .i64 bd.den], 26), (A, #[.int .i64 a.u, .slice Ea a.after.length ma, .int .i64 a.ap, .int .i64 a.den], 26)] ((WP).setCell ⟨W0.heap.size, 0, none⟩ (.int .i64 n)) := by
          subst hbd hEB hmB
          exact (St.bad SX.out hd 0 (.int .i64 n) rfl).sub (by simp) (fun p hp => hp)
        have hcb : bd.after.length ≤ mB := by
          subst hbd hmB
          first | assumption | simp
        generalize (WP).setCell ⟨W0.heap.size, 0, none⟩ (.int .i64 n) = WT0 at SB ⊢
        have T0 := Aside0.mk SB
        clear SB SX hbd hEB hmB
        obtain ⟨bc0, bc1, bc2, bc3, ac0, ac1, ac2, ac3⟩ := St.cells2 T0.out
        have z1 : decide (Lab.join a bd = Lab.zero) = true := decide_eq_true (Lab.join_bad_r hv)
        have z2 : decide (Lab.join bd a = Lab.zero) = true := decide_eq_true (Lab.join_bad_l hv)
        have q1 := Lab.leq_bad_l (y := a) hv
        have q2 := Lab.leq_bad_r (x := a) hv
        have q3 := Lab.leq_bad_l (y := bd) hv
        have q4 := Lab.allows_bad hv 0 1000000000 [n, 10] 5
        go_wp2_with (first | (have G_ := T9; clear G_; go_at_call 24; apply Calls.mono; apply allows_st (w := w) bd EB (some ⟨WT9.heap.size, 0, none⟩) mB 2 0 1000000000 [n, 10] 5; apply St.lit2; exact T9.out; (first | assumption | simp); (first | assumption | simp); (first | assumption | simp); (first | assumption | simp); rintro e WT10 ⟨rfl, h1_⟩; (first | rw [q4]); have T10 := Aside0.mk h1_; clear h1_; clear bc0 bc1 bc2 bc3 ac0 ac1 ac2 ac3; obtain ⟨bc0, bc1, bc2, bc3, ac0, ac1, ac2, ac3⟩ := St.cells2 T10.out) | (have G_ := T8; clear G_; go_at_call 20; apply Calls.mono; with_reducible apply leq_st (w := w) bd bd; exact T8.out; (first | assumption | simp); (first | assumption | simp); (first | assumption | simp); (first | assumption | simp); rintro e WT9 ⟨rfl, h1_⟩; (first | rw [q3]); have T9 := Aside0.mk h1_; clear h1_; clear bc0 bc1 bc2 bc3 ac0 ac1 ac2 ac3; obtain ⟨bc0, bc1, bc2, bc3, ac0, ac1, ac2, ac3⟩ := St.cells2 T9.out) | (have G_ := T7; clear G_; go_at_call 20; apply Calls.mono; with_reducible apply leq_st (w := w) a bd; exact T7.out; (first | assumption | simp); (first | assumption | simp); (first | assumption | simp); (first | assumption | simp); rintro e WT8 ⟨rfl, h1_⟩; (first | rw [q2]); have T8 := Aside0.mk h1_; clear h1_; clear bc0 bc1 bc2 bc3 ac0 ac1 ac2 ac3; obtain ⟨bc0, bc1, bc2, bc3, ac0, ac1, ac2, ac3⟩ := St.cells2 T8.out) | (have G_ := T6; clear G_; go_at_call 20; apply Calls.mono; with_reducible apply leq_st (w := w) bd a; exact T6.out; (first | assumption | simp); (first | assumption | simp); (first | assumption | simp); (first | assumption | simp); rintro e WT7 ⟨rfl, h1_⟩; (first | rw [q1]); have T7 := Aside0.mk h1_; clear h1_; clear bc0 bc1 bc2 bc3 ac0 ac1 ac2 ac3; obtain ⟨bc0, bc1, bc2, bc3, ac0, ac1, ac2, ac3⟩ := St.cells2 T7.out) | (have G_ := T5; clear G_; go_at_call 18; apply Calls.mono; with_reducible apply same_zr (w := w) (Lab.join bd a); exact T5.out; (first | assumption | simp); (first | assumption | simp); rintro e WT6 ⟨rfl, h1_⟩; (first | rw [z2]); have T6 := Aside0.mk h1_; clear h1_; clear bc0 bc1 bc2 bc3 ac0 ac1 ac2 ac3; obtain ⟨bc0, bc1, bc2, bc3, ac0, ac1, ac2, ac3⟩ := St.cells2 T6.out) | (have G_ := T4; clear G_; go_at_call 22; apply Calls.mono; with_reducible apply join_st (w := w) bd a; exact T4.out; (first | assumption | simp); (first | assumption | simp); (first | assumption | simp); (first | assumption | simp); rintro e WT5 ⟨EK, mK, rfl, hmK, h1_⟩; skip; have T5 := Aside0.mk h1_; clear h1_; clear bc0 bc1 bc2 bc3 ac0 ac1 ac2 ac3; obtain ⟨bc0, bc1, bc2, bc3, ac0, ac1, ac2, ac3⟩ := St.cells2 T5.out) | (have G_ := T3; clear G_; go_at_call 18; apply Calls.mono; with_reducible apply same_zr (w := w) (Lab.join a bd); exact T3.out; (first | assumption | simp); (first | assumption | simp); rintro e WT4 ⟨rfl, h1_⟩; (first | rw [z1]); have T4 := Aside0.mk h1_; clear h1_; clear bc0 bc1 bc2 bc3 ac0 ac1 ac2 ac3; obtain ⟨bc0, bc1, bc2, bc3, ac0, ac1, ac2, ac3⟩ := St.cells2 T4.out) | (have G_ := T2; clear G_; go_at_call 22; apply Calls.mono; with_reducible apply join_st (w := w) a bd; exact T2.out; (first | assumption | simp); (first | assumption | simp); (first | assumption | simp); (first | assumption | simp); rintro e WT3 ⟨EJ, mJ, rfl, hmJ, h1_⟩; skip; have T3 := Aside0.mk h1_; clear h1_; clear bc0 bc1 bc2 bc3 ac0 ac1 ac2 ac3; obtain ⟨bc0, bc1, bc2, bc3, ac0, ac1, ac2, ac3⟩ := St.cells2 T3.out) | (have G_ := T1; clear G_; go_at_call 16; apply Calls.mono; with_reducible apply valid_st (w := w) bd; exact T1.out; (first | assumption | simp); (first | assumption | simp); rintro e WT2 ⟨rfl, h1_⟩; (first | rw [hv]); have T2 := Aside0.mk h1_; clear h1_; clear bc0 bc1 bc2 bc3 ac0 ac1 ac2 ac3; obtain ⟨bc0, bc1, bc2, bc3, ac0, ac1, ac2, ac3⟩ := St.cells2 T2.out) | (have G_ := T0; clear G_; go_at_call 16; apply Calls.mono; with_reducible apply valid_st (w := w) a; exact T0.out; (first | assumption | simp); (first | assumption | simp); rintro e WT1 ⟨rfl, h1_⟩; (first | rw [va]); have T1 := Aside0.mk h1_; clear h1_; clear bc0 bc1 bc2 bc3 ac0 ac1 ac2 ac3; obtain ⟨bc0, bc1, bc2, bc3, ac0, ac1, ac2, ac3⟩ := St.cells2 T1.out))
        go_ret
        exact ⟨rfl, T10.out.bel⟩
    · have h1' : ¬ (n ≥ 0) := h1
      have hv : Lab.valid bd = false := by
        subst hbd
        rw [Bool.eq_false_iff]
        intro h
        obtain ⟨b1, b2, b3, b4, b5, b6, b7, b8⟩ := Lab.valid_iff.1 h
        simp only [Lab.asc, List.mem_cons, List.not_mem_nil, or_false, forall_eq_or_imp, forall_eq, List.pairwise_cons, List.Pairwise.nil, and_true] at b1 b2 b3 b4 b5 b6 b7 b8
        omega
      go_upto_region 8 with (go_at_call 27; apply Calls.mono; apply pick_st wh 5 0 hr; rintro e WP ⟨rfl, hd⟩)
      have hbh := bad_heap hd
      have hfr := frozen_of_heap hbh 0
      have hce := cell_of_heap hbh 0
      simp only [List.getElem?_toArray, List.getElem?_cons_zero, List.getElem?_cons_succ] at hce
      go_upto_region 20 with fail
      obtain ⟨EB, hEB⟩ : ∃ E, Ea = E := ⟨_, rfl⟩
      obtain ⟨mB, hmB⟩ : ∃ m, ma = m := ⟨_, rfl⟩
      have SB : St w [(EB, bd.after), (Ea, a.after)] [(W0.heap.size, #[.int .i64 bd.u, .slice EB bd.after.length mB, .int .i64 bd.ap, .int .i64 bd.den], 26), (A, #[.int .i64 a.u, .slice Ea a.after.length ma, .int .i64 a.ap, .int .i64 a.den], 26)] ((WP).setCell ⟨W0.heap.size, 0, none⟩ (.int .i64 n)) := by
        subst hbd hEB hmB
        exact (St.bad SX.out hd 0 (.int .i64 n) rfl).sub (by simp) (fun p hp => hp)
      have hcb : bd.after.length ≤ mB := by
        subst hbd hmB
        first | assumption | simp
      generalize (WP).setCell ⟨W0.heap.size, 0, none⟩ (.int .i64 n) = WT0 at SB ⊢
      have T0 := Aside0.mk SB
      clear SB SX hbd hEB hmB
      obtain ⟨bc0, bc1, bc2, bc3, ac0, ac1, ac2, ac3⟩ := St.cells2 T0.out
      have z1 : decide (Lab.join a bd = Lab.zero) = true := decide_eq_true (Lab.join_bad_r hv)
      have z2 : decide (Lab.join bd a = Lab.zero) = true := decide_eq_true (Lab.join_bad_l hv)
      have q1 := Lab.leq_bad_l (y := a) hv
      have q2 := Lab.leq_bad_r (x := a) hv
      have q3 := Lab.leq_bad_l (y := bd) hv
      have q4 := Lab.allows_bad hv 0 1000000000 [n, 10] 5
      go_wp2_with (first | (have G_ := T9; clear G_; go_at_call 24; apply Calls.mono; apply allows_st (w := w) bd EB (some ⟨WT9.heap.size, 0, none⟩) mB 2 0 1000000000 [n, 10] 5; apply St.lit2; exact T9.out; (first | assumption | simp); (first | assumption | simp); (first | assumption | simp); (first | assumption | simp); rintro e WT10 ⟨rfl, h1_⟩; (first | rw [q4]); have T10 := Aside0.mk h1_; clear h1_; clear bc0 bc1 bc2 bc3 ac0 ac1 ac2 ac3; obtain ⟨bc0, bc1, bc2, bc3, ac0, ac1, ac2, ac3⟩ := St.cells2 T10.out) | (have G_ := T8; clear G_; go_at_call 20; apply Calls.mono; with_reducible apply leq_st (w := w) bd bd; exact T8.out; (first | assumption | simp); (first | assumption | simp); (first | assumption | simp); (first | assumption | simp); rintro e WT9 ⟨rfl, h1_⟩; (first | rw [q3]); have T9 := Aside0.mk h1_; clear h1_; clear bc0 bc1 bc2 bc3 ac0 ac1 ac2 ac3; obtain ⟨bc0, bc1, bc2, bc3, ac0, ac1, ac2, ac3⟩ := St.cells2 T9.out) | (have G_ := T7; clear G_; go_at_call 20; apply Calls.mono; with_reducible apply leq_st (w := w) a bd; exact T7.out; (first | assumption | simp); (first | assumption | simp); (first | assumption | simp); (first | assumption | simp); rintro e WT8 ⟨rfl, h1_⟩; (first | rw [q2]); have T8 := Aside0.mk h1_; clear h1_; clear bc0 bc1 bc2 bc3 ac0 ac1 ac2 ac3; obtain ⟨bc0, bc1, bc2, bc3, ac0, ac1, ac2, ac3⟩ := St.cells2 T8.out) | (have G_ := T6; clear G_; go_at_call 20; apply Calls.mono; with_reducible apply leq_st (w := w) bd a; exact T6.out; (first | assumption | simp); (first | assumption | simp); (first | assumption | simp); (first | assumption | simp); rintro e WT7 ⟨rfl, h1_⟩; (first | rw [q1]); have T7 := Aside0.mk h1_; clear h1_; clear bc0 bc1 bc2 bc3 ac0 ac1 ac2 ac3; obtain ⟨bc0, bc1, bc2, bc3, ac0, ac1, ac2, ac3⟩ := St.cells2 T7.out) | (have G_ := T5; clear G_; go_at_call 18; apply Calls.mono; with_reducible apply same_zr (w := w) (Lab.join bd a); exact T5.out; (first | assumption | simp); (first | assumption | simp); rintro e WT6 ⟨rfl, h1_⟩; (first | rw [z2]); have T6 := Aside0.mk h1_; clear h1_; clear bc0 bc1 bc2 bc3 ac0 ac1 ac2 ac3; obtain ⟨bc0, bc1, bc2, bc3, ac0, ac1, ac2, ac3⟩ := St.cells2 T6.out) | (have G_ := T4; clear G_; go_at_call 22; apply Calls.mono; with_reducible apply join_st (w := w) bd a; exact T4.out; (first | assumption | simp); (first | assumption | simp); (first | assumption | simp); (first | assumption | simp); rintro e WT5 ⟨EK, mK, rfl, hmK, h1_⟩; skip; have T5 := Aside0.mk h1_; clear h1_; clear bc0 bc1 bc2 bc3 ac0 ac1 ac2 ac3; obtain ⟨bc0, bc1, bc2, bc3, ac0, ac1, ac2, ac3⟩ := St.cells2 T5.out) | (have G_ := T3; clear G_; go_at_call 18; apply Calls.mono; with_reducible apply same_zr (w := w) (Lab.join a bd); exact T3.out; (first | assumption | simp); (first | assumption | simp); rintro e WT4 ⟨rfl, h1_⟩; (first | rw [z1]); have T4 := Aside0.mk h1_; clear h1_; clear bc0 bc1 bc2 bc3 ac0 ac1 ac2 ac3; obtain ⟨bc0, bc1, bc2, bc3, ac0, ac1, ac2, ac3⟩ := St.cells2 T4.out) | (have G_ := T2; clear G_; go_at_call 22; apply Calls.mono; with_reducible apply join_st (w := w) a bd; exact T2.out; (first | assumption | simp); (first | assumption | simp); (first | assumption | simp); (first | assumption | simp); rintro e WT3 ⟨EJ, mJ, rfl, hmJ, h1_⟩; skip; have T3 := Aside0.mk h1_; clear h1_; clear bc0 bc1 bc2 bc3 ac0 ac1 ac2 ac3; obtain ⟨bc0, bc1, bc2, bc3, ac0, ac1, ac2, ac3⟩ := St.cells2 T3.out) | (have G_ := T1; clear G_; go_at_call 16; apply Calls.mono; with_reducible apply valid_st (w := w) bd; exact T1.out; (first | assumption | simp); (first | assumption | simp); rintro e WT2 ⟨rfl, h1_⟩; (first | rw [hv]); have T2 := Aside0.mk h1_; clear h1_; clear bc0 bc1 bc2 bc3 ac0 ac1 ac2 ac3; obtain ⟨bc0, bc1, bc2, bc3, ac0, ac1, ac2, ac3⟩ := St.cells2 T2.out) | (have G_ := T0; clear G_; go_at_call 16; apply Calls.mono; with_reducible apply valid_st (w := w) a; exact T0.out; (first | assumption | simp); (first | assumption | simp); rintro e WT1 ⟨rfl, h1_⟩; (first | rw [va]); have T1 := Aside0.mk h1_; clear h1_; clear bc0 bc1 bc2 bc3 ac0 ac1 ac2 ac3; obtain ⟨bc0, bc1, bc2, bc3, ac0, ac1, ac2, ac3⟩ := St.cells2 T1.out))
      go_ret
      exact ⟨rfl, T10.out.bel⟩
  · obtain ⟨bd, hbd⟩ : ∃ bd : Lab, (⟨a.u, a.after, n, a.den⟩ : Lab) = bd := ⟨_, rfl⟩
    by_cases h1 : 0 ≤ n
    · by_cases h2 : n ≤ 5
      · have h1' : n ≥ 0 := h1
        have hv : Lab.valid bd = true := by
          subst hbd
          refine Lab.valid_iff.2 ⟨?_, ?_, ?_, ?_, ?_, ?_, ?_, ?_⟩ <;> simp only [Lab.asc, List.mem_cons, List.not_mem_nil, or_false, forall_eq_or_imp, forall_eq, List.pairwise_cons, List.Pairwise.nil, and_true] <;> first | omega | assumption | (refine ⟨?_, ?_⟩ <;> first | omega | (intro x hx; cases hx)) | (intro x hx; cases hx)
        go_upto_region 8 with (go_at_call 27; apply Calls.mono; apply pick_st wh 5 1 hr; rintro e WP ⟨rfl, hd⟩)
        have hbh := bad_heap hd
        have hfr := frozen_of_heap hbh 2
        have hce := cell_of_heap hbh 2
        simp only [List.getElem?_toArray, List.getElem?_cons_zero, List.getElem?_cons_succ] at hce
        go_upto_region 20 with fail
        obtain ⟨EB, hEB⟩ : ∃ E, Ea = E := ⟨_, rfl⟩
        obtain ⟨mB, hmB⟩ : ∃ m, ma = m := ⟨_, rfl⟩
        have SB : St w [(EB, bd.after), (Ea, a.after)] [(W0.heap.size, #[.int .i64 bd.u, .slice EB bd.after.length mB, .int .i64 bd.ap, .int .i64 bd.den], 26), (A, #[.int .i64 a.u, .slice Ea a.after.length ma, .int .i64 a.ap, .int .i64 a.den], 26)] ((WP).setCell ⟨W0.heap.size, 2, none⟩ (.int .i64 n)) := by
          subst hbd hEB hmB
          exact (St.bad SX.out hd 2 (.int .i64 n) rfl).sub (by simp) (fun p hp => hp)
        have hcb : bd.after.length ≤ mB := by
          subst hbd hmB
          first | assumption | simp
        generalize (WP).setCell ⟨W0.heap.size, 2, none⟩ (.int .i64 n) = WT0 at SB ⊢
        have T0 := Aside0.mk SB
        clear SB SX hbd hEB hmB
        obtain ⟨bc0, bc1, bc2, bc3, ac0, ac1, ac2, ac3⟩ := St.cells2 T0.out
        go_wp2_with (first | (have G_ := T1; clear G_; go_at_call 16; apply Calls.mono; with_reducible apply valid_st (w := w) bd; exact T1.out; (first | assumption | simp); (first | assumption | simp); rintro e WT2 ⟨rfl, h1_⟩; (first | rw [hv]); have T2 := Aside0.mk h1_; clear h1_; clear bc0 bc1 bc2 bc3 ac0 ac1 ac2 ac3; obtain ⟨bc0, bc1, bc2, bc3, ac0, ac1, ac2, ac3⟩ := St.cells2 T2.out) | (have G_ := T0; clear G_; go_at_call 16; apply Calls.mono; with_reducible apply valid_st (w := w) a; exact T0.out; (first | assumption | simp); (first | assumption | simp); rintro e WT1 ⟨rfl, h1_⟩; (first | rw [va]); have T1 := Aside0.mk h1_; clear h1_; clear bc0 bc1 bc2 bc3 ac0 ac1 ac2 ac3; obtain ⟨bc0, bc1, bc2, bc3, ac0, ac1, ac2, ac3⟩ := St.cells2 T1.out))
        go_ret
        exact ⟨rfl, T2.out.bel⟩
      · have h1' : n ≥ 0 := h1
        have hd2 : decide (n ≤ 5) = false := decide_eq_false h2
        have hv : Lab.valid bd = false := by
          subst hbd
          rw [Bool.eq_false_iff]
          intro h
          obtain ⟨b1, b2, b3, b4, b5, b6, b7, b8⟩ := Lab.valid_iff.1 h
          simp only [Lab.asc, List.mem_cons, List.not_mem_nil, or_false, forall_eq_or_imp, forall_eq, List.pairwise_cons, List.Pairwise.nil, and_true] at b1 b2 b3 b4 b5 b6 b7 b8
          omega
        go_upto_region 8 with (go_at_call 27; apply Calls.mono; apply pick_st wh 5 1 hr; rintro e WP ⟨rfl, hd⟩)
        have hbh := bad_heap hd
        have hfr := frozen_of_heap hbh 2
        have hce := cell_of_heap hbh 2
        simp only [List.getElem?_toArray, List.getElem?_cons_zero, List.getElem?_cons_succ] at hce
        go_upto_region 20 with fail
        obtain ⟨EB, hEB⟩ : ∃ E, Ea = E := ⟨_, rfl⟩
        obtain ⟨mB, hmB⟩ : ∃ m, ma = m := ⟨_, rfl⟩
        have SB : St w [(EB, bd.after), (Ea, a.after)] [(W0.heap.size, #[.int .i64 bd.u, .slice EB bd.after.length mB, .int .i64 bd.ap, .int .i64 bd.den], 26), (A, #[.int .i64 a.u, .slice Ea a.after.length ma, .int .i64 a.ap, .int .i64 a.den], 26)] ((WP).setCell ⟨W0.heap.size, 2, none⟩ (.int .i64 n)) := by
          subst hbd hEB hmB
          exact (St.bad SX.out hd 2 (.int .i64 n) rfl).sub (by simp) (fun p hp => hp)
        have hcb : bd.after.length ≤ mB := by
          subst hbd hmB
          first | assumption | simp
        generalize (WP).setCell ⟨W0.heap.size, 2, none⟩ (.int .i64 n) = WT0 at SB ⊢
        have T0 := Aside0.mk SB
        clear SB SX hbd hEB hmB
        obtain ⟨bc0, bc1, bc2, bc3, ac0, ac1, ac2, ac3⟩ := St.cells2 T0.out
        have z1 : decide (Lab.join a bd = Lab.zero) = true := decide_eq_true (Lab.join_bad_r hv)
        have z2 : decide (Lab.join bd a = Lab.zero) = true := decide_eq_true (Lab.join_bad_l hv)
        have q1 := Lab.leq_bad_l (y := a) hv
        have q2 := Lab.leq_bad_r (x := a) hv
        have q3 := Lab.leq_bad_l (y := bd) hv
        have q4 := Lab.allows_bad hv 0 1000000000 [n, 10] 5
        go_wp2_with (first | (have G_ := T9; clear G_; go_at_call 24; apply Calls.mono; apply allows_st (w := w) bd EB (some ⟨WT9.heap.size, 0, none⟩) mB 2 0 1000000000 [n, 10] 5; apply St.lit2; exact T9.out; (first | assumption | simp); (first | assumption | simp); (first | assumption | simp); (first | assumption | simp); rintro e WT10 ⟨rfl, h1_⟩; (first | rw [q4]); have T10 := Aside0.mk h1_; clear h1_; clear bc0 bc1 bc2 bc3 ac0 ac1 ac2 ac3; obtain ⟨bc0, bc1, bc2, bc3, ac0, ac1, ac2, ac3⟩ := St.cells2 T10.out) | (have G_ := T8; clear G_; go_at_call 20; apply Calls.mono; with_reducible apply leq_st (w := w) bd bd; exact T8.out; (first | assumption | simp); (first | assumption | simp); (first | assumption | simp); (first | assumption | simp); rintro e WT9 ⟨rfl, h1_⟩; (first | rw [q3]); have T9 := Aside0.mk h1_; clear h1_; clear bc0 bc1 bc2 bc3 ac0 ac1 ac2 ac3; obtain ⟨bc0, bc1, bc2, bc3, ac0, ac1, ac2, ac3⟩ := St.cells2 T9.out) | (have G_ := T7; clear G_; go_at_call 20; apply Calls.mono; with_reducible apply leq_st (w := w) a bd; exact T7.out; (first | assumption | simp); (first | assumption | simp); (first | assumption | simp); (first | assumption | simp); rintro e WT8 ⟨rfl, h1_⟩; (first | rw [q2]); have T8 := Aside0.mk h1_; clear h1_; clear bc0 bc1 bc2 bc3 ac0 ac1 ac2 ac3; obtain ⟨bc0, bc1, bc2, bc3, ac0, ac1, ac2, ac3⟩ := St.cells2 T8.out) | (have G_ := T6; clear G_; go_at_call 20; apply Calls.mono; with_reducible apply leq_st (w := w) bd a; exact T6.out; (first | assumption | simp); (first | assumption | simp); (first | assumption | simp); (first | assumption | simp); rintro e WT7 ⟨rfl, h1_⟩; (first | rw [q1]); have T7 := Aside0.mk h1_; clear h1_; clear bc0 bc1 bc2 bc3 ac0 ac1 ac2 ac3; obtain ⟨bc0, bc1, bc2, bc3, ac0, ac1, ac2, ac3⟩ := St.cells2 T7.out) | (have G_ := T5; clear G_; go_at_call 18; apply Calls.mono; with_reducible apply same_zr (w := w) (Lab.join bd a); exact T5.out; (first | assumption | simp); (first | assumption | simp); rintro e WT6 ⟨rfl, h1_⟩; (first | rw [z2]); have T6 := Aside0.mk h1_; clear h1_; clear bc0 bc1 bc2 bc3 ac0 ac1 ac2 ac3; obtain ⟨bc0, bc1, bc2, bc3, ac0, ac1, ac2, ac3⟩ := St.cells2 T6.out) | (have G_ := T4; clear G_; go_at_call 22; apply Calls.mono; with_reducible apply join_st (w := w) bd a; exact T4.out; (first | assumption | simp); (first | assumption | simp); (first | assumption | simp); (first | assumption | simp); rintro e WT5 ⟨EK, mK, rfl, hmK, h1_⟩; skip; have T5 := Aside0.mk h1_; clear h1_; clear bc0 bc1 bc2 bc3 ac0 ac1 ac2 ac3; obtain ⟨bc0, bc1, bc2, bc3, ac0, ac1, ac2, ac3⟩ := St.cells2 T5.out) | (have G_ := T3; clear G_; go_at_call 18; apply Calls.mono; with_reducible apply same_zr (w := w) (Lab.join a bd); exact T3.out; (first | assumption | simp); (first | assumption | simp); rintro e WT4 ⟨rfl, h1_⟩; (first | rw [z1]); have T4 := Aside0.mk h1_; clear h1_; clear bc0 bc1 bc2 bc3 ac0 ac1 ac2 ac3; obtain ⟨bc0, bc1, bc2, bc3, ac0, ac1, ac2, ac3⟩ := St.cells2 T4.out) | (have G_ := T2; clear G_; go_at_call 22; apply Calls.mono; with_reducible apply join_st (w := w) a bd; exact T2.out; (first | assumption | simp); (first | assumption | simp); (first | assumption | simp); (first | assumption | simp); rintro e WT3 ⟨EJ, mJ, rfl, hmJ, h1_⟩; skip; have T3 := Aside0.mk h1_; clear h1_; clear bc0 bc1 bc2 bc3 ac0 ac1 ac2 ac3; obtain ⟨bc0, bc1, bc2, bc3, ac0, ac1, ac2, ac3⟩ := St.cells2 T3.out) | (have G_ := T1; clear G_; go_at_call 16; apply Calls.mono; with_reducible apply valid_st (w := w) bd; exact T1.out; (first | assumption | simp); (first | assumption | simp); rintro e WT2 ⟨rfl, h1_⟩; (first | rw [hv]); have T2 := Aside0.mk h1_; clear h1_; clear bc0 bc1 bc2 bc3 ac0 ac1 ac2 ac3; obtain ⟨bc0, bc1, bc2, bc3, ac0, ac1, ac2, ac3⟩ := St.cells2 T2.out) | (have G_ := T0; clear G_; go_at_call 16; apply Calls.mono; with_reducible apply valid_st (w := w) a; exact T0.out; (first | assumption | simp); (first | assumption | simp); rintro e WT1 ⟨rfl, h1_⟩; (first | rw [va]); have T1 := Aside0.mk h1_; clear h1_; clear bc0 bc1 bc2 bc3 ac0 ac1 ac2 ac3; obtain ⟨bc0, bc1, bc2, bc3, ac0, ac1, ac2, ac3⟩ := St.cells2 T1.out))
        go_ret
        exact ⟨rfl, T10.out.bel⟩
    · have h1' : ¬ (n ≥ 0) := h1
      have hv : Lab.valid bd = false := by
        subst hbd
        rw [Bool.eq_false_iff]
        intro h
        obtain ⟨b1, b2, b3, b4, b5, b6, b7, b8⟩ := Lab.valid_iff.1 h
        simp only [Lab.asc, List.mem_cons, List.not_mem_nil, or_false, forall_eq_or_imp, forall_eq, List.pairwise_cons, List.Pairwise.nil, and_true] at b1 b2 b3 b4 b5 b6 b7 b8
        omega
      go_upto_region 8 with (go_at_call 27; apply Calls.mono; apply pick_st wh 5 1 hr; rintro e WP ⟨rfl, hd⟩)
      have hbh := bad_heap hd
      have hfr := frozen_of_heap hbh 2
      have hce := cell_of_heap hbh 2
      simp only [List.getElem?_toArray, List.getElem?_cons_zero, List.getElem?_cons_succ] at hce
      go_upto_region 20 with fail
      obtain ⟨EB, hEB⟩ : ∃ E, Ea = E := ⟨_, rfl⟩
      obtain ⟨mB, hmB⟩ : ∃ m, ma = m := ⟨_, rfl⟩
      have SB : St w [(EB, bd.after), (Ea, a.after)] [(W0.heap.size, #[.int .i64 bd.u, .slice EB bd.after.length mB, .int .i64 bd.ap, .int .i64 bd.den], 26), (A, #[.int .i64 a.u, .slice Ea a.after.length ma, .int .i64 a.ap, .int .i64 a.den], 26)] ((WP).setCell ⟨W0.heap.size, 2, none⟩ (.int .i64 n)) := by
        subst hbd hEB hmB
        exact (St.bad SX.out hd 2 (.int .i64 n) rfl).sub (by simp) (fun p hp => hp)
      have hcb : bd.after.length ≤ mB := by
        subst hbd hmB
        first | assumption | simp
      generalize (WP).setCell ⟨W0.heap.size, 2, none⟩ (.int .i64 n) = WT0 at SB ⊢
      have T0 := Aside0.mk SB
      clear SB SX hbd hEB hmB
      obtain ⟨bc0, bc1, bc2, bc3, ac0, ac1, ac2, ac3⟩ := St.cells2 T0.out
      have z1 : decide (Lab.join a bd = Lab.zero) = true := decide_eq_true (Lab.join_bad_r hv)
      have z2 : decide (Lab.join bd a = Lab.zero) = true := decide_eq_true (Lab.join_bad_l hv)
      have q1 := Lab.leq_bad_l (y := a) hv
      have q2 := Lab.leq_bad_r (x := a) hv
      have q3 := Lab.leq_bad_l (y := bd) hv
      have q4 := Lab.allows_bad hv 0 1000000000 [n, 10] 5
      go_wp2_with (first | (have G_ := T9; clear G_; go_at_call 24; apply Calls.mono; apply allows_st (w := w) bd EB (some ⟨WT9.heap.size, 0, none⟩) mB 2 0 1000000000 [n, 10] 5; apply St.lit2; exact T9.out; (first | assumption | simp); (first | assumption | simp); (first | assumption | simp); (first | assumption | simp); rintro e WT10 ⟨rfl, h1_⟩; (first | rw [q4]); have T10 := Aside0.mk h1_; clear h1_; clear bc0 bc1 bc2 bc3 ac0 ac1 ac2 ac3; obtain ⟨bc0, bc1, bc2, bc3, ac0, ac1, ac2, ac3⟩ := St.cells2 T10.out) | (have G_ := T8; clear G_; go_at_call 20; apply Calls.mono; with_reducible apply leq_st (w := w) bd bd; exact T8.out; (first | assumption | simp); (first | assumption | simp); (first | assumption | simp); (first | assumption | simp); rintro e WT9 ⟨rfl, h1_⟩; (first | rw [q3]); have T9 := Aside0.mk h1_; clear h1_; clear bc0 bc1 bc2 bc3 ac0 ac1 ac2 ac3; obtain ⟨bc0, bc1, bc2, bc3, ac0, ac1, ac2, ac3⟩ := St.cells2 T9.out) | (have G_ := T7; clear G_; go_at_call 20; apply Calls.mono; with_reducible apply leq_st (w := w) a bd; exact T7.out; (first | assumption | simp); (first | assumption | simp); (first | assumption | simp); (first | assumption | simp); rintro e WT8 ⟨rfl, h1_⟩; (first | rw [q2]); have T8 := Aside0.mk h1_; clear h1_; clear bc0 bc1 bc2 bc3 ac0 ac1 ac2 ac3; obtain ⟨bc0, bc1, bc2, bc3, ac0, ac1, ac2, ac3⟩ := St.cells2 T8.out) | (have G_ := T6; clear G_; go_at_call 20; apply Calls.mono; with_reducible apply leq_st (w := w) bd a; exact T6.out; (first | assumption | simp); (first | assumption | simp); (first | assumption | simp); (first | assumption | simp); rintro e WT7 ⟨rfl, h1_⟩; (first | rw [q1]); have T7 := Aside0.mk h1_; clear h1_; clear bc0 bc1 bc2 bc3 ac0 ac1 ac2 ac3; obtain ⟨bc0, bc1, bc2, bc3, ac0, ac1, ac2, ac3⟩ := St.cells2 T7.out) | (have G_ := T5; clear G_; go_at_call 18; apply Calls.mono; with_reducible apply same_zr (w := w) (Lab.join bd a); exact T5.out; (first | assumption | simp); (first | assumption | simp); rintro e WT6 ⟨rfl, h1_⟩; (first | rw [z2]); have T6 := Aside0.mk h1_; clear h1_; clear bc0 bc1 bc2 bc3 ac0 ac1 ac2 ac3; obtain ⟨bc0, bc1, bc2, bc3, ac0, ac1, ac2, ac3⟩ := St.cells2 T6.out) | (have G_ := T4; clear G_; go_at_call 22; apply Calls.mono; with_reducible apply join_st (w := w) bd a; exact T4.out; (first | assumption | simp); (first | assumption | simp); (first | assumption | simp); (first | assumption | simp); rintro e WT5 ⟨EK, mK, rfl, hmK, h1_⟩; skip; have T5 := Aside0.mk h1_; clear h1_; clear bc0 bc1 bc2 bc3 ac0 ac1 ac2 ac3; obtain ⟨bc0, bc1, bc2, bc3, ac0, ac1, ac2, ac3⟩ := St.cells2 T5.out) | (have G_ := T3; clear G_; go_at_call 18; apply Calls.mono; with_reducible apply same_zr (w := w) (Lab.join a bd); exact T3.out; (first | assumption | simp); (first | assumption | simp); rintro e WT4 ⟨rfl, h1_⟩; (first | rw [z1]); have T4 := Aside0.mk h1_; clear h1_; clear bc0 bc1 bc2 bc3 ac0 ac1 ac2 ac3; obtain ⟨bc0, bc1, bc2, bc3, ac0, ac1, ac2, ac3⟩ := St.cells2 T4.out) | (have G_ := T2; clear G_; go_at_call 22; apply Calls.mono; with_reducible apply join_st (w := w) a bd; exact T2.out; (first | assumption | simp); (first | assumption | simp); (first | assumption | simp); (first | assumption | simp); rintro e WT3 ⟨EJ, mJ, rfl, hmJ, h1_⟩; skip; have T3 := Aside0.mk h1_; clear h1_; clear bc0 bc1 bc2 bc3 ac0 ac1 ac2 ac3; obtain ⟨bc0, bc1, bc2, bc3, ac0, ac1, ac2, ac3⟩ := St.cells2 T3.out) | (have G_ := T1; clear G_; go_at_call 16; apply Calls.mono; with_reducible apply valid_st (w := w) bd; exact T1.out; (first | assumption | simp); (first | assumption | simp); rintro e WT2 ⟨rfl, h1_⟩; (first | rw [hv]); have T2 := Aside0.mk h1_; clear h1_; clear bc0 bc1 bc2 bc3 ac0 ac1 ac2 ac3; obtain ⟨bc0, bc1, bc2, bc3, ac0, ac1, ac2, ac3⟩ := St.cells2 T2.out) | (have G_ := T0; clear G_; go_at_call 16; apply Calls.mono; with_reducible apply valid_st (w := w) a; exact T0.out; (first | assumption | simp); (first | assumption | simp); rintro e WT1 ⟨rfl, h1_⟩; (first | rw [va]); have T1 := Aside0.mk h1_; clear h1_; clear bc0 bc1 bc2 bc3 ac0 ac1 ac2 ac3; obtain ⟨bc0, bc1, bc2, bc3, ac0, ac1, ac2, ac3⟩ := St.cells2 T1.out))
      go_ret
      exact ⟨rfl, T10.out.bel⟩
  · obtain ⟨bd, hbd⟩ : ∃ bd : Lab, (⟨a.u, a.after, a.ap, n⟩ : Lab) = bd := ⟨_, rfl⟩
    by_cases h1 : 0 ≤ n
    · by_cases h2 : n ≤ 15
      · have h1' : n ≥ 0 := h1
        have hv : Lab.valid bd = true := by
          subst hbd
          refine Lab.valid_iff.2 ⟨?_, ?_, ?_, ?_, ?_, ?_, ?_, ?_⟩ <;> simp only [Lab.asc, List.mem_cons, List.not_mem_nil, or_false, forall_eq_or_imp, forall_eq, List.pairwise_cons, List.Pairwise.nil, and_true] <;> first | omega | assumption | (refine ⟨?_, ?_⟩ <;> first | omega | (intro x hx; cases hx)) | (intro x hx; cases hx)
        go_upto_region 8 with (go_at_call 27; apply Calls.mono; apply pick_st wh 5 2 hr; rintro e WP ⟨rfl, hd⟩)
        have hbh := bad_heap hd
        have hfr := frozen_of_heap hbh 3
        have hce := cell_of_heap hbh 3
        simp only [List.getElem?_toArray, List.getElem?_cons_zero, List.getElem?_cons_succ] at hce
        go_upto_region 20 with fail
        obtain ⟨EB, hEB⟩ : ∃ E, Ea = E := ⟨_, rfl⟩
        obtain ⟨mB, hmB⟩ : ∃ m, ma = m := ⟨_, rfl⟩
        have SB : St w [(EB, bd.after), (Ea, a.after)] [(W0.heap.size, #[.int .i64 bd.u, .slice EB bd.after.length mB, .int .i64 bd.ap, .int .i64 bd.den], 26), (A, #[.int .i64 a.u, .slice Ea a.after.length ma, .int .i64 a.ap, .int .i64 a.den], 26)] ((WP).setCell ⟨W0.heap.size, 3, none⟩ (.int .i64 n)) := by
          subst hbd hEB hmB
          exact (St.bad SX.out hd 3 (.int .i64 n) rfl).sub (by simp) (fun p hp => hp)
        have hcb : bd.after.length ≤ mB := by
          subst hbd hmB
          first | assumption | simp
        generalize (WP).setCell ⟨W0.heap.size, 3, none⟩ (.int .i64 n) = WT0 at SB ⊢
        have T0 := Aside0.mk SB
        clear SB SX hbd hEB hmB
        obtain ⟨bc0, bc1, bc2, bc3, ac0, ac1, ac2, ac3⟩ := St.cells2 T0.out
        go_wp2_with (first | (have G_ := T1; clear G_; go_at_call 16; apply Calls.mono; with_reducible apply valid_st (w := w) bd; exact T1.out; (first | assumption | simp); (first | assumption | simp); rintro e WT2 ⟨rfl, h1_⟩; (first | rw [hv]); have T2 := Aside0.mk h1_; clear h1_; clear bc0 bc1 bc2 bc3 ac0 ac1 ac2 ac3; obtain ⟨bc0, bc1, bc2, bc3, ac0, ac1, ac2, ac3⟩ := St.cells2 T2.out) | (have G_ := T0; clear G_; go_at_call 16; apply Calls.mono; with_reducible apply valid_st (w := w) a; exact T0.out; (first | assumption | simp); (first | assumption | simp); rintro e WT1 ⟨rfl, h1_⟩; (first | rw [va]); have T1 := Aside0.mk h1_; clear h1_; clear bc0 bc1 bc2 bc3 ac0 ac1 ac2 ac3; obtain ⟨bc0, bc1, bc2, bc3, ac0, ac1, ac2, ac3⟩ := St.cells2 T1.out))
        go_ret
        exact ⟨rfl, T2.out.bel⟩
      · have h1' : n ≥ 0 := h1
        have hd2 : decide (n ≤ 15) = false := decide_eq_false h2
        have hv : Lab.valid bd = false := by
          subst hbd
          rw [Bool.eq_false_iff]
          intro h
          obtain ⟨b1, b2, b3, b4, b5, b6, b7, b8⟩ := Lab.valid_iff.1 h
          simp only [Lab.asc, List.mem_cons, List.not_mem_nil, or_false, forall_eq_or_imp, forall_eq, List.pairwise_cons, List.Pairwise.nil, and_true] at b1 b2 b3 b4 b5 b6 b7 b8
          omega
        go_upto_region 8 with (go_at_call 27; apply Calls.mono; apply pick_st wh 5 2 hr; rintro e WP ⟨rfl, hd⟩)
        have hbh := bad_heap hd
        have hfr := frozen_of_heap hbh 3
        have hce := cell_of_heap hbh 3
        simp only [List.getElem?_toArray, List.getElem?_cons_zero, List.getElem?_cons_succ] at hce
        go_upto_region 20 with fail
        obtain ⟨EB, hEB⟩ : ∃ E, Ea = E := ⟨_, rfl⟩
        obtain ⟨mB, hmB⟩ : ∃ m, ma = m := ⟨_, rfl⟩
        have SB : St w [(EB, bd.after), (Ea, a.after)] [(W0.heap.size, #[.int .i64 bd.u, .slice EB bd.after.length mB, .int .i64 bd.ap, .int .i64 bd.den], 26), (A, #[.int .i64 a.u, .slice Ea a.after.length ma, .int .i64 a.ap, .int .i64 a.den], 26)] ((WP).setCell ⟨W0.heap.size, 3, none⟩ (.int .i64 n)) := by
          subst hbd hEB hmB
          exact (St.bad SX.out hd 3 (.int .i64 n) rfl).sub (by simp) (fun p hp => hp)
        have hcb : bd.after.length ≤ mB := by
          subst hbd hmB
          first | assumption | simp
        generalize (WP).setCell ⟨W0.heap.size, 3, none⟩ (.int .i64 n) = WT0 at SB ⊢
        have T0 := Aside0.mk SB
        clear SB SX hbd hEB hmB
        obtain ⟨bc0, bc1, bc2, bc3, ac0, ac1, ac2, ac3⟩ := St.cells2 T0.out
        have z1 : decide (Lab.join a bd = Lab.zero) = true := decide_eq_true (Lab.join_bad_r hv)
        have z2 : decide (Lab.join bd a = Lab.zero) = true := decide_eq_true (Lab.join_bad_l hv)
        have q1 := Lab.leq_bad_l (y := a) hv
        have q2 := Lab.leq_bad_r (x := a) hv
        have q3 := Lab.leq_bad_l (y := bd) hv
        have q4 := Lab.allows_bad hv 0 1000000000 [n, 10] 5
        go_wp2_with (first | (have G_ := T9; clear G_; go_at_call 24; apply Calls.mono; apply allows_st (w := w) bd EB (some ⟨WT9.heap.size, 0, none⟩) mB 2 0 1000000000 [n, 10] 5; apply St.lit2; exact T9.out; (first | assumption | simp); (first | assumption | simp); (first | assumption | simp); (first | assumption | simp); rintro e WT10 ⟨rfl, h1_⟩; (first | rw [q4]); have T10 := Aside0.mk h1_; clear h1_; clear bc0 bc1 bc2 bc3 ac0 ac1 ac2 ac3; obtain ⟨bc0, bc1, bc2, bc3, ac0, ac1, ac2, ac3⟩ := St.cells2 T10.out) | (have G_ := T8; clear G_; go_at_call 20; apply Calls.mono; with_reducible apply leq_st (w := w) bd bd; exact T8.out; (first | assumption | simp); (first | assumption | simp); (first | assumption | simp); (first | assumption | simp); rintro e WT9 ⟨rfl, h1_⟩; (first | rw [q3]); have T9 := Aside0.mk h1_; clear h1_; clear bc0 bc1 bc2 bc3 ac0 ac1 ac2 ac3; obtain ⟨bc0, bc1, bc2, bc3, ac0, ac1, ac2, ac3⟩ := St.cells2 T9.out) | (have G_ := T7; clear G_; go_at_call 20; apply Calls.mono; with_reducible apply leq_st (w := w) a bd; exact T7.out; (first | assumption | simp); (first | assumption | simp); (first | assumption | simp); (first | assumption | simp); rintro e WT8 ⟨rfl, h1_⟩; (first | rw [q2]); have T8 := Aside0.mk h1_; clear h1_; clear bc0 bc1 bc2 bc3 ac0 ac1 ac2 ac3; obtain ⟨bc0, bc1, bc2, bc3, ac0, ac1, ac2, ac3⟩ := St.cells2 T8.out) | (have G_ := T6; clear G_; go_at_call 20; apply Calls.mono; with_reducible apply leq_st (w := w) bd a; exact T6.out; (first | assumption | simp); (first | assumption | simp); (first | assumption | simp); (first | assumption | simp); rintro e WT7 ⟨rfl, h1_⟩; (first | rw [q1]); have T7 := Aside0.mk h1_; clear h1_; clear bc0 bc1 bc2 bc3 ac0 ac1 ac2 ac3; obtain ⟨bc0, bc1, bc2, bc3, ac0, ac1, ac2, ac3⟩ := St.cells2 T7.out) | (have G_ := T5; clear G_; go_at_call 18; apply Calls.mono; with_reducible apply same_zr (w := w) (Lab.join bd a); exact T5.out; (first | assumption | simp); (first | assumption | simp); rintro e WT6 ⟨rfl, h1_⟩; (first | rw [z2]); have T6 := Aside0.mk h1_; clear h1_; clear bc0 bc1 bc2 bc3 ac0 ac1 ac2 ac3; obtain ⟨bc0, bc1, bc2, bc3, ac0, ac1, ac2, ac3⟩ := St.cells2 T6.out) | (have G_ := T4; clear G_; go_at_call 22; apply Calls.mono; with_reducible apply join_st (w := w) bd a; exact T4.out; (first | assumption | simp); (first | assumption | simp); (first | assumption | simp); (first | assumption | simp); rintro e WT5 ⟨EK, mK, rfl, hmK, h1_⟩; skip; have T5 := Aside0.mk h1_; clear h1_; clear bc0 bc1 bc2 bc3 ac0 ac1 ac2 ac3; obtain ⟨bc0, bc1, bc2, bc3, ac0, ac1, ac2, ac3⟩ := St.cells2 T5.out) | (have G_ := T3; clear G_; go_at_call 18; apply Calls.mono; with_reducible apply same_zr (w := w) (Lab.join a bd); exact T3.out; (first | assumption | simp); (first | assumption | simp); rintro e WT4 ⟨rfl, h1_⟩; (first | rw [z1]); have T4 := Aside0.mk h1_; clear h1_; clear bc0 bc1 bc2 bc3 ac0 ac1 ac2 ac3; obtain ⟨bc0, bc1, bc2, bc3, ac0, ac1, ac2, ac3⟩ := St.cells2 T4.out) | (have G_ := T2; clear G_; go_at_call 22; apply Calls.mono; with_reducible apply join_st (w := w) a bd; exact T2.out; (first | assumption | simp); (first | assumption | simp); (first | assumption | simp); (first | assumption | simp); rintro e WT3 ⟨EJ, mJ, rfl, hmJ, h1_⟩; skip; have T3 := Aside0.mk h1_; clear h1_; clear bc0 bc1 bc2 bc3 ac0 ac1 ac2 ac3; obtain ⟨bc0, bc1, bc2, bc3, ac0, ac1, ac2, ac3⟩ := St.cells2 T3.out) | (have G_ := T1; clear G_; go_at_call 16; apply Calls.mono; with_reducible apply valid_st (w := w) bd; exact T1.out; (first | assumption | simp); (first | assumption | simp); rintro e WT2 ⟨rfl, h1_⟩; (first | rw [hv]); have T2 := Aside0.mk h1_; clear h1_; clear bc0 bc1 bc2 bc3 ac0 ac1 ac2 ac3; obtain ⟨bc0, bc1, bc2, bc3, ac0, ac1, ac2, ac3⟩ := St.cells2 T2.out) | (have G_ := T0; clear G_; go_at_call 16; apply Calls.mono; with_reducible apply valid_st (w := w) a; exact T0.out; (first | assumption | simp); (first | assumption | simp); rintro e WT1 ⟨rfl, h1_⟩; (first | rw [va]); have T1 := Aside0.mk h1_; clear h1_; clear bc0 bc1 bc2 bc3 ac0 ac1 ac2 ac3; obtain ⟨bc0, bc1, bc2, bc3, ac0, ac1, ac2, ac3⟩ := St.cells2 T1.out))
        go_ret
        exact ⟨rfl, T10.out.bel⟩
    · have h1' : ¬ (n ≥ 0) := h1
      have hv : Lab.valid bd = false := by
        subst hbd
        rw [Bool.eq_false_iff]
        intro h
        obtain ⟨b1, b2, b3, b4, b5, b6, b7, b8⟩ := Lab.valid_iff.1 h
        simp only [Lab.asc, List.mem_cons, List.not_mem_nil, or_false, forall_eq_or_imp, forall_eq, List.pairwise_cons, List.Pairwise.nil, and_true] at b1 b2 b3 b4 b5 b6 b7 b8
        omega
      go_upto_region 8 with (go_at_call 27; apply Calls.mono; apply pick_st wh 5 2 hr; rintro e WP ⟨rfl, hd⟩)
      have hbh := bad_heap hd
      have hfr := frozen_of_heap hbh 3
      have hce := cell_of_heap hbh 3
      simp only [List.getElem?_toArray, List.getElem?_cons_zero, List.getElem?_cons_succ] at hce
      go_upto_region 20 with fail
      obtain ⟨EB, hEB⟩ : ∃ E, Ea = E := ⟨_, rfl⟩
      obtain ⟨mB, hmB⟩ : ∃ m, ma = m := ⟨_, rfl⟩
      have SB : St w [(EB, bd.after), (Ea, a.after)] [(W0.heap.size, #[.int .i64 bd.u, .slice EB bd.after.length mB, .int .i64 bd.ap, .int .i64 bd.den], 26), (A, #[.int .i64 a.u, .slice Ea a.after.length ma, .int .i64 a.ap, .int .i64 a.den], 26)] ((WP).setCell ⟨W0.heap.size, 3, none⟩ (.int .i64 n)) := by
        subst hbd hEB hmB
        exact (St.bad SX.out hd 3 (.int .i64 n) rfl).sub (by simp) (fun p hp => hp)
      have hcb : bd.after.length ≤ mB := by
        subst hbd hmB
        first | assumption | simp
      generalize (WP).setCell ⟨W0.heap.size, 3, none⟩ (.int .i64 n) = WT0 at SB ⊢
      have T0 := Aside0.mk SB
      clear SB SX hbd hEB hmB
      obtain ⟨bc0, bc1, bc2, bc3, ac0, ac1, ac2, ac3⟩ := St.cells2 T0.out
      have z1 : decide (Lab.join a bd = Lab.zero) = true := decide_eq_true (Lab.join_bad_r hv)
      have z2 : decide (Lab.join bd a = Lab.zero) = true := decide_eq_true (Lab.join_bad_l hv)
      have q1 := Lab.leq_bad_l (y := a) hv
      have q2 := Lab.leq_bad_r (x := a) hv
      have q3 := Lab.leq_bad_l (y := bd) hv
      have q4 := Lab.allows_bad hv 0 1000000000 [n, 10] 5
      go_wp2_with (first | (have G_ := T9; clear G_; go_at_call 24; apply Calls.mono; apply allows_st (w := w) bd EB (some ⟨WT9.heap.size, 0, none⟩) mB 2 0 1000000000 [n, 10] 5; apply St.lit2; exact T9.out; (first | assumption | simp); (first | assumption | simp); (first | assumption | simp); (first | assumption | simp); rintro e WT10 ⟨rfl, h1_⟩; (first | rw [q4]); have T10 := Aside0.mk h1_; clear h1_; clear bc0 bc1 bc2 bc3 ac0 ac1 ac2 ac3; obtain ⟨bc0, bc1, bc2, bc3, ac0, ac1, ac2, ac3⟩ := St.cells2 T10.out) | (have G_ := T8; clear G_; go_at_call 20; apply Calls.mono; with_reducible apply leq_st (w := w) bd bd; exact T8.out; (first | assumption | simp); (first | assumption | simp); (first | assumption | simp); (first | assumption | simp); rintro e WT9 ⟨rfl, h1_⟩; (first | rw [q3]); have T9 := Aside0.mk h1_; clear h1_; clear bc0 bc1 bc2 bc3 ac0 ac1 ac2 ac3; obtain ⟨bc0, bc1, bc2, bc3, ac0, ac1, ac2, ac3⟩ := St.cells2 T9.out) | (have G_ := T7; clear G_; go_at_call 20; apply Calls.mono; with_reducible apply leq_st (w := w) a bd; exact T7.out; (first | assumption | simp); (first | assumption | simp); (first | assumption | simp); (first | assumption | simp); rintro e WT8 ⟨rfl, h1_⟩; (first | rw [q2]); have T8 := Aside0.mk h1_; clear h1_; clear bc0 bc1 bc2 bc3 ac0 ac1 ac2 ac3; obtain ⟨bc0, bc1, bc2, bc3, ac0, ac1, ac2, ac3⟩ := St.cells2 T8.out) | (have G_ := T6; clear G_; go_at_call 20; apply Calls.mono; with_reducible apply leq_st (w := w) bd a; exact T6.out; (first | assumption | simp); (first | assumption | simp); (first | assumption | simp); (first | assumption | simp); rintro e WT7 ⟨rfl, h1_⟩; (first | rw [q1]); have T7 := Aside0.mk h1_; clear h1_; clear bc0 bc1 bc2 bc3 ac0 ac1 ac2 ac3; obtain ⟨bc0, bc1, bc2, bc3, ac0, ac1, ac2, ac3⟩ := St.cells2 T7.out) | (have G_ := T5; clear G_; go_at_call 18; apply Calls.mono; with_reducible apply same_zr (w := w) (Lab.join bd a); exact T5.out; (first | assumption | simp); (first | assumption | simp); rintro e WT6 ⟨rfl, h1_⟩; (first | rw [z2]); have T6 := Aside0.mk h1_; clear h1_; clear bc0 bc1 bc2 bc3 ac0 ac1 ac2 ac3; obtain ⟨bc0, bc1, bc2, bc3, ac0, ac1, ac2, ac3⟩ := St.cells2 T6.out) | (have G_ := T4; clear G_; go_at_call 22; apply Calls.mono; with_reducible apply join_st (w := w) bd a; exact T4.out; (first | assumption | simp); (first | assumption | simp); (first | assumption | simp); (first | assumption | simp); rintro e WT5 ⟨EK, mK, rfl, hmK, h1_⟩; skip; have T5 := Aside0.mk h1_; clear h1_; clear bc0 bc1 bc2 bc3 ac0 ac1 ac2 ac3; obtain ⟨bc0, bc1, bc2, bc3, ac0, ac1, ac2, ac3⟩ := St.cells2 T5.out) | (have G_ := T3; clear G_; go_at_call 18; apply Calls.mono; with_reducible apply same_zr (w := w) (Lab.join a bd); exact T3.out; (first | assumption | simp); (first | assumption | simp); rintro e WT4 ⟨rfl, h1_⟩; (first | rw [z1]); have T4 := Aside0.mk h1_; clear h1_; clear bc0 bc1 bc2 bc3 ac0 ac1 ac2 ac3; obtain ⟨bc0, bc1, bc2, bc3, ac0, ac1, ac2, ac3⟩ := St.cells2 T4.out) | (have G_ := T2; clear G_; go_at_call 22; apply Calls.mono; with_reducible apply join_st (w := w) a bd; exact T2.out; (first | assumption | simp); (first | assumption | simp); (first | assumption | simp); (first | assumption | simp); rintro e WT3 ⟨EJ, mJ, rfl, hmJ, h1_⟩; skip; have T3 := Aside0.mk h1_; clear h1_; clear bc0 bc1 bc2 bc3 ac0 ac1 ac2 ac3; obtain ⟨bc0, bc1, bc2, bc3, ac0, ac1, ac2, ac3⟩ := St.cells2 T3.out) | (have G_ := T1; clear G_; go_at_call 16; apply Calls.mono; with_reducible apply valid_st (w := w) bd; exact T1.out; (first | assumption | simp); (first | assumption | simp); rintro e WT2 ⟨rfl, h1_⟩; (first | rw [hv]); have T2 := Aside0.mk h1_; clear h1_; clear bc0 bc1 bc2 bc3 ac0 ac1 ac2 ac3; obtain ⟨bc0, bc1, bc2, bc3, ac0, ac1, ac2, ac3⟩ := St.cells2 T2.out) | (have G_ := T0; clear G_; go_at_call 16; apply Calls.mono; with_reducible apply valid_st (w := w) a; exact T0.out; (first | assumption | simp); (first | assumption | simp); rintro e WT1 ⟨rfl, h1_⟩; (first | rw [va]); have T1 := Aside0.mk h1_; clear h1_; clear bc0 bc1 bc2 bc3 ac0 ac1 ac2 ac3; obtain ⟨bc0, bc1, bc2, bc3, ac0, ac1, ac2, ac3⟩ := St.cells2 T1.out))
      go_ret
      exact ⟨rfl, T10.out.bel⟩
  · obtain ⟨bd, hbd⟩ : ∃ bd : Lab, (⟨a.u, [n], a.ap, a.den⟩ : Lab) = bd := ⟨_, rfl⟩
    by_cases h1 : 1 ≤ n
    · by_cases h2 : n ≤ 64
      · have h1' : n ≥ 1 := h1
        have hv : Lab.valid bd = true := by
          subst hbd
          refine Lab.valid_iff.2 ⟨?_, ?_, ?_, ?_, ?_, ?_, ?_, ?_⟩ <;> simp only [Lab.asc, List.mem_cons, List.not_mem_nil, or_false, forall_eq_or_imp, forall_eq, List.pairwise_cons, List.Pairwise.nil, and_true] <;> first | omega | assumption | (refine ⟨?_, ?_⟩ <;> first | omega | (intro x hx; cases hx)) | (intro x hx; cases hx)
        go_upto_region 8 with (go_at_call 27; apply Calls.mono; apply pick_st wh 5 3 hr; rintro e WP ⟨rfl, hd⟩)
        have hbh := bad_heap hd
        have hbh2 := ((below_alloc (Below.refl WP.heap.size WP) (.cells #[.int .i64 n] 3)).block _ (Array.getElem?_eq_some_iff.1 hbh).1).trans hbh
        have hfr := frozen_of_heap hbh2 1
        have hce := cell_of_heap hbh2 1
        simp only [List.getElem?_toArray, List.getElem?_cons_zero, List.getElem?_cons_succ] at hce
        go_upto_region 20 with fail
        obtain ⟨EB, hEB⟩ : ∃ E : Option Addr, some ⟨WP.heap.size, 0, none⟩ = E := ⟨_, rfl⟩
        obtain ⟨mB, hmB⟩ : ∃ m : Nat, 1 = m := ⟨_, rfl⟩
        have SB : St w [(EB, bd.after), (Ea, a.after)] [(W0.heap.size, #[.int .i64 bd.u, .slice EB bd.after.length mB, .int .i64 bd.ap, .int .i64 bd.den], 26), (A, #[.int .i64 a.u, .slice Ea a.after.length ma, .int .i64 a.ap, .int .i64 a.den], 26)] ((WP.alloc (.cells #[.int .i64 n] 3)).setCell ⟨W0.heap.size, 1, none⟩ (.slice (some ⟨WP.heap.size, 0, none⟩) 1 1)) := by
          subst hbd hEB hmB
          exact St.badRow SX.out hd [n] (by simp) 1 (.slice (some ⟨WP.heap.size, 0, none⟩) 1 1) rfl
        have hcb : bd.after.length ≤ mB := by
          subst hbd hmB
          first | assumption | simp
        generalize (WP.alloc (.cells #[.int .i64 n] 3)).setCell ⟨W0.heap.size, 1, none⟩ (.slice (some ⟨WP.heap.size, 0, none⟩) 1 1) = WT0 at SB ⊢
        have T0 := Aside0.mk SB
        clear SB SX hbd hEB hmB
        obtain ⟨bc0, bc1, bc2, bc3, ac0, ac1, ac2, ac3⟩ := St.cells2 T0.out
        go_wp2_with (first | (have G_ := T1; clear G_; go_at_call 16; apply Calls.mono; with_reducible apply valid_st (w := w) bd; exact T1.out; (first | assumption | simp); (first | assumption | simp); rintro e WT2 ⟨rfl, h1_⟩; (first | rw [hv]); have T2 := Aside0.mk h1_; clear h1_; clear bc0 bc1 bc2 bc3 ac0 ac1 ac2 ac3; obtain ⟨bc0, bc1, bc2, bc3, ac0, ac1, ac2, ac3⟩ := St.cells2 T2.out) | (have G_ := T0; clear G_; go_at_call 16; apply Calls.mono; with_reducible apply valid_st (w := w) a; exact T0.out; (first | assumption | simp); (first | assumption | simp); rintro e WT1 ⟨rfl, h1_⟩; (first | rw [va]); have T1 := Aside0.mk h1_; clear h1_; clear bc0 bc1 bc2 bc3 ac0 ac1 ac2 ac3; obtain ⟨bc0, bc1, bc2, bc3, ac0, ac1, ac2, ac3⟩ := St.cells2 T1.out))
        go_ret
        exact ⟨rfl, T2.out.bel⟩
      · have h1' : n ≥ 1 := h1
        have hd2 : decide (n ≤ 64) = false := decide_eq_false h2
        have hv : Lab.valid bd = false := by
          subst hbd
          rw [Bool.eq_false_iff]
          intro h
          obtain ⟨b1, b2, b3, b4, b5, b6, b7, b8⟩ := Lab.valid_iff.1 h
          simp only [Lab.asc, List.mem_cons, List.not_mem_nil, or_false, forall_eq_or_imp, forall_eq, List.pairwise_cons, List.Pairwise.nil, and_true] at b1 b2 b3 b4 b5 b6 b7 b8
          omega
        go_upto_region 8 with (go_at_call 27; apply Calls.mono; apply pick_st wh 5 3 hr; rintro e WP ⟨rfl, hd⟩)
        have hbh := bad_heap hd
        have hbh2 := ((below_alloc (Below.refl WP.heap.size WP) (.cells #[.int .i64 n] 3)).block _ (Array.getElem?_eq_some_iff.1 hbh).1).trans hbh
        have hfr := frozen_of_heap hbh2 1
        have hce := cell_of_heap hbh2 1
        simp only [List.getElem?_toArray, List.getElem?_cons_zero, List.getElem?_cons_succ] at hce
        go_upto_region 20 with fail
        obtain ⟨EB, hEB⟩ : ∃ E : Option Addr, some ⟨WP.heap.size, 0, none⟩ = E := ⟨_, rfl⟩
        obtain ⟨mB, hmB⟩ : ∃ m : Nat, 1 = m := ⟨_, rfl⟩
        have SB : St w [(EB, bd.after), (Ea, a.after)] [(W0.heap.size, #[.int .i64 bd.u, .slice EB bd.after.length mB, .int .i64 bd.ap, .int .i64 bd.den], 26), (A, #[.int .i64 a.u, .slice Ea a.after.length ma, .int .i64 a.ap, .int .i64 a.den], 26)] ((WP.alloc (.cells #[.int .i64 n] 3)).setCell ⟨W0.heap.size, 1, none⟩ (.slice (some ⟨WP.heap.size, 0, none⟩) 1 1)) := by
          subst hbd hEB hmB
          exact St.badRow SX.out hd [n] (by simp) 1 (.slice (some ⟨WP.heap.size, 0, none⟩) 1 1) rfl
        have hcb : bd.after.length ≤ mB := by
          subst hbd hmB
          first | assumption | simp
        generalize (WP.alloc (.cells #[.int .i64 n] 3)).setCell ⟨W0.heap.size, 1, none⟩ (.slice (some ⟨WP.heap.size, 0, none⟩) 1 1) = WT0 at SB ⊢
        have T0 := Aside0.mk SB
        clear SB SX hbd hEB hmB
        obtain ⟨bc0, bc1, bc2, bc3, ac0, ac1, ac2, ac3⟩ := St.cells2 T0.out
        have z1 : decide (Lab.join a bd = Lab.zero) = true := decide_eq_true (Lab.join_bad_r hv)
        have z2 : decide (Lab.join bd a = Lab.zero) = true := decide_eq_true (Lab.join_bad_l hv)
        have q1 := Lab.leq_bad_l (y := a) hv
        have q2 := Lab.leq_bad_r (x := a) hv
        have q3 := Lab.leq_bad_l (y := bd) hv
        have q4 := Lab.allows_bad hv 0 1000000000 [n, 10] 5
        go_wp2_with (first | (have G_ := T9; clear G_; go_at_call 24; apply Calls.mono; apply allows_st (w := w) bd EB (some ⟨WT9.heap.size, 0, none⟩) mB 2 0 1000000000 [n, 10] 5; apply St.lit2; exact T9.out; (first | assumption | simp); (first | assumption | simp); (first | assumption | simp); (first | assumption | simp); rintro e WT10 ⟨rfl, h1_⟩; (first | rw [q4]); have T10 := Aside0.mk h1_; clear h1_; clear bc0 bc1 bc2 bc3 ac0 ac1 ac2 ac3; obtain ⟨bc0, bc1, bc2, bc3, ac0, ac1, ac2, ac3⟩ := St.cells2 T10.out) | (have G_ := T8; clear G_; go_at_call 20; apply Calls.mono; with_reducible apply leq_st (w := w) bd bd; exact T8.out; (first | assumption | simp); (first | assumption | simp); (first | assumption | simp); (first | assumption | simp); rintro e WT9 ⟨rfl, h1_⟩; (first | rw [q3]); have T9 := Aside0.mk h1_; clear h1_; clear bc0 bc1 bc2 bc3 ac0 ac1 ac2 ac3; obtain ⟨bc0, bc1, bc2, bc3, ac0, ac1, ac2, ac3⟩ := St.cells2 T9.out) | (have G_ := T7; clear G_; go_at_call 20; apply Calls.mono; with_reducible apply leq_st (w := w) a bd; exact T7.out; (first | assumption | simp); (first | assumption | simp); (first | assumption | simp); (first | assumption | simp); rintro e WT8 ⟨rfl, h1_⟩; (first | rw [q2]); have T8 := Aside0.mk h1_; clear h1_; clear bc0 bc1 bc2 bc3 ac0 ac1 ac2 ac3; obtain ⟨bc0, bc1, bc2, bc3, ac0, ac1, ac2, ac3⟩ := St.cells2 T8.out) | (have G_ := T6; clear G_; go_at_call 20; apply Calls.mono; with_reducible apply leq_st (w := w) bd a; exact T6.out; (first | assumption | simp); (first | assumption | simp); (first | assumption | simp); (first | assumption | simp); rintro e WT7 ⟨rfl, h1_⟩; (first | rw [q1]); have T7 := Aside0.mk h1_; clear h1_; clear bc0 bc1 bc2 bc3 ac0 ac1 ac2 ac3; obtain ⟨bc0, bc1, bc2, bc3, ac0, ac1, ac2, ac3⟩ := St.cells2 T7.out) | (have G_ := T5; clear G_; go_at_call 18; apply Calls.mono; with_reducible apply same_zr (w := w) (Lab.join bd a); exact T5.out; (first | assumption | simp); (first | assumption | simp); rintro e WT6 ⟨rfl, h1_⟩; (first | rw [z2]); have T6 := Aside0.mk h1_; clear h1_; clear bc0 bc1 bc2 bc3 ac0 ac1 ac2 ac3; obtain ⟨bc0, bc1, bc2, bc3, ac0, ac1, ac2, ac3⟩ := St.cells2 T6.out) | (have G_ := T4; clear G_; go_at_call 22; apply Calls.mono; with_reducible apply join_st (w := w) bd a; exact T4.out; (first | assumption | simp); (first | assumption | simp); (first | assumption | simp); (first | assumption | simp); rintro e WT5 ⟨EK, mK, rfl, hmK, h1_⟩; skip; have T5 := Aside0.mk h1_; clear h1_; clear bc0 bc1 bc2 bc3 ac0 ac1 ac2 ac3; obtain ⟨bc0, bc1, bc2, bc3, ac0, ac1, ac2, ac3⟩ := St.cells2 T5.out) | (have G_ := T3; clear G_; go_at_call 18; apply Calls.mono; with_reducible apply same_zr (w := w) (Lab.join a bd); exact T3.out; (first | assumption | simp); (first | assumption | simp); rintro e WT4 ⟨rfl, h1_⟩; (first | rw [z1]); have T4 := Aside0.mk h1_; clear h1_; clear bc0 bc1 bc2 bc3 ac0 ac1 ac2 ac3; obtain ⟨bc0, bc1, bc2, bc3, ac0, ac1, ac2, ac3⟩ := St.cells2 T4.out) | (have G_ := T2; clear G_; go_at_call 22; apply Calls.mono; with_reducible apply join_st (w := w) a bd; exact T2.out; (first | assumption | simp); (first | assumption | simp); (first | assumption | simp); (first | assumption | simp); rintro e WT3 ⟨EJ, mJ, rfl, hmJ, h1_⟩; skip; have T3 := Aside0.mk h1_; clear h1_; clear bc0 bc1 bc2 bc3 ac0 ac1 ac2 ac3; obtain ⟨bc0, bc1, bc2, bc3, ac0, ac1, ac2, ac3⟩ := St.cells2 T3.out) | (have G_ := T1; clear G_; go_at_call 16; apply Calls.mono; with_reducible apply valid_st (w := w) bd; exact T1.out; (first | assumption | simp); (first | assumption | simp); rintro e WT2 ⟨rfl, h1_⟩; (first | rw [hv]); have T2 := Aside0.mk h1_; clear h1_; clear bc0 bc1 bc2 bc3 ac0 ac1 ac2 ac3; obtain ⟨bc0, bc1, bc2, bc3, ac0, ac1, ac2, ac3⟩ := St.cells2 T2.out) | (have G_ := T0; clear G_; go_at_call 16; apply Calls.mono; with_reducible apply valid_st (w := w) a; exact T0.out; (first | assumption | simp); (first | assumption | simp); rintro e WT1 ⟨rfl, h1_⟩; (first | rw [va]); have T1 := Aside0.mk h1_; clear h1_; clear bc0 bc1 bc2 bc3 ac0 ac1 ac2 ac3; obtain ⟨bc0, bc1, bc2, bc3, ac0, ac1, ac2, ac3⟩ := St.cells2 T1.out))
        go_ret
        exact ⟨rfl, T10.out.bel⟩
    · have h1' : ¬ (n ≥ 1) := h1
      have hv : Lab.valid bd = false := by
        subst hbd
        rw [Bool.eq_false_iff]
        intro h
        obtain ⟨b1, b2, b3, b4, b5, b6, b7, b8⟩ := Lab.valid_iff.1 h
        simp only [Lab.asc, List.mem_cons, List.not_mem_nil, or_false, forall_eq_or_imp, forall_eq, List.pairwise_cons, List.Pairwise.nil, and_true] at b1 b2 b3 b4 b5 b6 b7 b8
        omega
      go_upto_region 8 with (go_at_call 27; apply Calls.mono; apply pick_st wh 5 3 hr; rintro e WP ⟨rfl, hd⟩)
      have hbh := bad_heap hd
      have hbh2 := ((below_alloc (Below.refl WP.heap.size WP) (.cells #[.int .i64 n] 3)).block _ (Array.getElem?_eq_some_iff.1 hbh).1).trans hbh
      have hfr := frozen_of_heap hbh2 1
      have hce := cell_of_heap hbh2 1
      simp only [List.getElem?_toArray, List.getElem?_cons_zero, List.getElem?_cons_succ] at hce
      go_upto_region 20 with fail
      obtain ⟨EB, hEB⟩ : ∃ E : Option Addr, some ⟨WP.heap.size, 0, none⟩ = E := ⟨_, rfl⟩
      obtain ⟨mB, hmB⟩ : ∃ m : Nat, 1 = m := ⟨_, rfl⟩
      have SB : St w [(EB, bd.after), (Ea, a.after)] [(W0.heap.size, #[.int .i64 bd.u, .slice EB bd.after.length mB, .int .i64 bd.ap, .int .i64 bd.den], 26), (A, #[.int .i64 a.u, .slice Ea a.after.length ma, .int .i64 a.ap, .int .i64 a.den], 26)] ((WP.alloc (.cells #[.int .i64 n] 3)).setCell ⟨W0.heap.size, 1, none⟩ (.slice (some ⟨WP.heap.size, 0, none⟩) 1 1)) := by
        subst hbd hEB hmB
        exact St.badRow SX.out hd [n] (by simp) 1 (.slice (some ⟨WP.heap.size, 0, none⟩) 1 1) rfl
      have hcb : bd.after.length ≤ mB := by
        subst hbd hmB
        first | assumption | simp
      generalize (WP.alloc (.cells #[.int .i64 n] 3)).setCell ⟨W0.heap.size, 1, none⟩ (.slice (some ⟨WP.heap.size, 0, none⟩) 1 1) = WT0 at SB ⊢
      have T0 := Aside0.mk SB
      clear SB SX hbd hEB hmB
      obtain ⟨bc0, bc1, bc2, bc3, ac0, ac1, ac2, ac3⟩ := St.cells2 T0.out
      have z1 : decide (Lab.join a bd = Lab.zero) = true := decide_eq_true (Lab.join_bad_r hv)
      have z2 : decide (Lab.join bd a = Lab.zero) = true := decide_eq_true (Lab.join_bad_l hv)
      have q1 := Lab.leq_bad_l (y := a) hv
      have q2 := Lab.leq_bad_r (x := a) hv
      have q3 := Lab.leq_bad_l (y := bd) hv
      have q4 := Lab.allows_bad hv 0 1000000000 [n, 10] 5
      go_wp2_with (first | (have G_ := T9; clear G_; go_at_call 24; apply Calls.mono; apply allows_st (w := w) bd EB (some ⟨WT9.heap.size, 0, none⟩) mB 2 0 1000000000 [n, 10] 5; apply St.lit2; exact T9.out; (first | assumption | simp); (first | assumption | simp); (first | assumption | simp); (first | assumption | simp); rintro e WT10 ⟨rfl, h1_⟩; (first | rw [q4]); have T10 := Aside0.mk h1_; clear h1_; clear bc0 bc1 bc2 bc3 ac0 ac1 ac2 ac3; obtain ⟨bc0, bc1, bc2, bc3, ac0, ac1, ac2, ac3⟩ := St.cells2 T10.out) | (have G_ := T8; clear G_; go_at_call 20; apply Calls.mono; with_reducible apply leq_st (w := w) bd bd; exact T8.out; (first | assumption | simp); (first | assumption | simp); (first | assumption | simp); (first | assumption | simp); rintro e WT9 ⟨rfl, h1_⟩; (first | rw [q3]); have T9 := Aside0.mk h1_; clear h1_; clear bc0 bc1 bc2 bc3 ac0 ac1 ac2 ac3; obtain ⟨bc0, bc1, bc2, bc3, ac0, ac1, ac2, ac3⟩ := St.cells2 T9.out) | (have G_ := T7; clear G_; go_at_call 20; apply Calls.mono; with_reducible apply leq_st (w := w) a bd; exact T7.out; (first | assumption | simp); (first | assumption | simp); (first | assumption | simp); (first | assumption | simp); rintro e WT8 ⟨rfl, h1_⟩; (first | rw [q2]); have T8 := Aside0.mk h1_; clear h1_; clear bc0 bc1 bc2 bc3 ac0 ac1 ac2 ac3; obtain ⟨bc0, bc1, bc2, bc3, ac0, ac1, ac2, ac3⟩ := St.cells2 T8.out) | (have G_ := T6; clear G_; go_at_call 20; apply Calls.mono; with_reducible apply leq_st (w := w) bd a; exact T6.out; (first | assumption | simp); (first | assumption | simp); (first | assumption | simp); (first | assumption | simp); rintro e WT7 ⟨rfl, h1_⟩; (first | rw [q1]); have T7 := Aside0.mk h1_; clear h1_; clear bc0 bc1 bc2 bc3 ac0 ac1 ac2 ac3; obtain ⟨bc0, bc1, bc2, bc3, ac0, ac1, ac2, ac3⟩ := St.cells2 T7.out) | (have G_ := T5; clear G_; go_at_call 18; apply Calls.mono; with_reducible apply same_zr (w := w) (Lab.join bd a); exact T5.out; (first | assumption | simp); (first | assumption | simp); rintro e WT6 ⟨rfl, h1_⟩; (first | rw [z2]); have T6 := Aside0.mk h1_; clear h1_; clear bc0 bc1 bc2 bc3 ac0 ac1 ac2 ac3; obtain ⟨bc0, bc1, bc2, bc3, ac0, ac1, ac2, ac3⟩ := St.cells2 T6.out) | (have G_ := T4; clear G_; go_at_call 22; apply Calls.mono; with_reducible apply join_st (w := w) bd a; exact T4.out; (first | assumption | simp); (first | assumption | simp); (first | assumption | simp); (first | assumption | simp); rintro e WT5 ⟨EK, mK, rfl, hmK, h1_⟩; skip; have T5 := Aside0.mk h1_; clear h1_; clear bc0 bc1 bc2 bc3 ac0 ac1 ac2 ac3; obtain ⟨bc0, bc1, bc2, bc3, ac0, ac1, ac2, ac3⟩ := St.cells2 T5.out) | (have G_ := T3; clear G_; go_at_call 18; apply Calls.mono; with_reducible apply same_zr (w := w) (Lab.join a bd); exact T3.out; (first | assumption | simp); (first | assumption | simp); rintro e WT4 ⟨rfl, h1_⟩; (first | rw [z1]); have T4 := Aside0.mk h1_; clear h1_; clear bc0 bc1 bc2 bc3 ac0 ac1 ac2 ac3; obtain ⟨bc0, bc1, bc2, bc3, ac0, ac1, ac2, ac3⟩ := St.cells2 T4.out) | (have G_ := T2; clear G_; go_at_call 22; apply Calls.mono; with_reducible apply join_st (w := w) a bd; exact T2.out; (first | assumption | simp); (first | assumption | simp); (first | assumption | simp); (first | assumption | simp); rintro e WT3 ⟨EJ, mJ, rfl, hmJ, h1_⟩; skip; have T3 := Aside0.mk h1_; clear h1_; clear bc0 bc1 bc2 bc3 ac0 ac1 ac2 ac3; obtain ⟨bc0, bc1, bc2, bc3, ac0, ac1, ac2, ac3⟩ := St.cells2 T3.out) | (have G_ := T1; clear G_; go_at_call 16; apply Calls.mono; with_reducible apply valid_st (w := w) bd; exact T1.out; (first | assumption | simp); (first | assumption | simp); rintro e WT2 ⟨rfl, h1_⟩; (first | rw [hv]); have T2 := Aside0.mk h1_; clear h1_; clear bc0 bc1 bc2 bc3 ac0 ac1 ac2 ac3; obtain ⟨bc0, bc1, bc2, bc3, ac0, ac1, ac2, ac3⟩ := St.cells2 T2.out) | (have G_ := T0; clear G_; go_at_call 16; apply Calls.mono; with_reducible apply valid_st (w := w) a; exact T0.out; (first | assumption | simp); (first | assumption | simp); rintro e WT1 ⟨rfl, h1_⟩; (first | rw [va]); have T1 := Aside0.mk h1_; clear h1_; clear bc0 bc1 bc2 bc3 ac0 ac1 ac2 ac3; obtain ⟨bc0, bc1, bc2, bc3, ac0, ac1, ac2, ac3⟩ := St.cells2 T1.out))
      go_ret
      exact ⟨rfl, T10.out.bel⟩
  · obtain ⟨bd, hbd⟩ : ∃ bd : Lab, (⟨a.u, [10, n], a.ap, a.den⟩ : Lab) = bd := ⟨_, rfl⟩
    by_cases h1 : 10 < n
    · by_cases h2 : n ≤ 64
      · have h1' : n > 10 := h1
        have hv : Lab.valid bd = true := by
          subst hbd
          refine Lab.valid_iff.2 ⟨?_, ?_, ?_, ?_, ?_, ?_, ?_, ?_⟩ <;> simp only [Lab.asc, List.mem_cons, List.not_mem_nil, or_false, forall_eq_or_imp, forall_eq, List.pairwise_cons, List.Pairwise.nil, and_true] <;> first | omega | assumption | (refine ⟨?_, ?_⟩ <;> first | omega | (intro x hx; cases hx)) | (intro x hx; cases hx)
        go_upto_region 8 with (go_at_call 27; apply Calls.mono; apply pick_st wh 5 4 hr; rintro e WP ⟨rfl, hd⟩)
        have hbh := bad_heap hd
        have hbh2 := ((below_alloc (Below.refl WP.heap.size WP) (.cells #[.int .i64 10, .int .i64 n] 3)).block _ (Array.getElem?_eq_some_iff.1 hbh).1).trans hbh
        have hfr := frozen_of_heap hbh2 1
        have hce := cell_of_heap hbh2 1
        simp only [List.getElem?_toArray, List.getElem?_cons_zero, List.getElem?_cons_succ] at hce
        go_upto_region 20 with fail
        obtain ⟨EB, hEB⟩ : ∃ E : Option Addr, some ⟨WP.heap.size, 0, none⟩ = E := ⟨_, rfl⟩
        obtain ⟨mB, hmB⟩ : ∃ m : Nat, 2 = m := ⟨_, rfl⟩
        have SB : St w [(EB, bd.after), (Ea, a.after)] [(W0.heap.size, #[.int .i64 bd.u, .slice EB bd.after.length mB, .int .i64 bd.ap, .int .i64 bd.den], 26), (A, #[.int .i64 a.u, .slice Ea a.after.length ma, .int .i64 a.ap, .int .i64 a.den], 26)] ((WP.alloc (.cells #[.int .i64 10, .int .i64 n] 3)).setCell ⟨W0.heap.size, 1, none⟩ (.slice (some ⟨WP.heap.size, 0, none⟩) 2 2)) := by
          subst hbd hEB hmB
          exact St.badRow SX.out hd [10, n] (by simp) 1 (.slice (some ⟨WP.heap.size, 0, none⟩) 2 2) rfl
        have hcb : bd.after.length ≤ mB := by
          subst hbd hmB
          first | assumption | simp
        generalize (WP.alloc (.cells #[.int .i64 10, .int .i64 n] 3)).setCell ⟨W0.heap.size, 1, none⟩ (.slice (some ⟨WP.heap.size, 0, none⟩) 2 2) = WT0 at SB ⊢
        have T0 := Aside0.mk SB
        clear SB SX hbd hEB hmB
        obtain ⟨bc0, bc1, bc2, bc3, ac0, ac1, ac2, ac3⟩ := St.cells2 T0.out
        go_wp2_with (first | (have G_ := T1; clear G_; go_at_call 16; apply Calls.mono; with_reducible apply valid_st (w := w) bd; exact T1.out; (first | assumption | simp); (first | assumption | simp); rintro e WT2 ⟨rfl, h1_⟩; (first | rw [hv]); have T2 := Aside0.mk h1_; clear h1_; clear bc0 bc1 bc2 bc3 ac0 ac1 ac2 ac3; obtain ⟨bc0, bc1, bc2, bc3, ac0, ac1, ac2, ac3⟩ := St.cells2 T2.out) | (have G_ := T0; clear G_; go_at_call 16; apply Calls.mono; with_reducible apply valid_st (w := w) a; exact T0.out; (first | assumption | simp); (first | assumption | simp); rintro e WT1 ⟨rfl, h1_⟩; (first | rw [va]); have T1 := Aside0.mk h1_; clear h1_; clear bc0 bc1 bc2 bc3 ac0 ac1 ac2 ac3; obtain ⟨bc0, bc1, bc2, bc3, ac0, ac1, ac2, ac3⟩ := St.cells2 T1.out))
        go_ret
        exact ⟨rfl, T2.out.bel⟩
      · have h1' : n > 10 := h1
        have hd2 : decide (n ≤ 64) = false := decide_eq_false h2
        have hv : Lab.valid bd = false := by
          subst hbd
          rw [Bool.eq_false_iff]
          intro h
          obtain ⟨b1, b2, b3, b4, b5, b6, b7, b8⟩ := Lab.valid_iff.1 h
          simp only [Lab.asc, List.mem_cons, List.not_mem_nil, or_false, forall_eq_or_imp, forall_eq, List.pairwise_cons, List.Pairwise.nil, and_true] at b1 b2 b3 b4 b5 b6 b7 b8
          omega
        go_upto_region 8 with (go_at_call 27; apply Calls.mono; apply pick_st wh 5 4 hr; rintro e WP ⟨rfl, hd⟩)
        have hbh := bad_heap hd
        have hbh2 := ((below_alloc (Below.refl WP.heap.size WP) (.cells #[.int .i64 10, .int .i64 n] 3)).block _ (Array.getElem?_eq_some_iff.1 hbh).1).trans hbh
        have hfr := frozen_of_heap hbh2 1
        have hce := cell_of_heap hbh2 1
        simp only [List.getElem?_toArray, List.getElem?_cons_zero, List.getElem?_cons_succ] at hce
        go_upto_region 20 with fail
        obtain ⟨EB, hEB⟩ : ∃ E : Option Addr, some ⟨WP.heap.size, 0, none⟩ = E := ⟨_, rfl⟩
        obtain ⟨mB, hmB⟩ : ∃ m : Nat, 2 = m := ⟨_, rfl⟩
        have SB : St w [(EB, bd.after), (Ea, a.after)] [(W0.heap.size, #[.int .i64 bd.u, .slice EB bd.after.length mB, .int .i64 bd.ap, .int .i64 bd.den], 26), (A, #[.int .i64 a.u, .slice Ea a.after.length ma, .int .i64 a.ap, .int .i64 a.den], 26)] ((WP.alloc (.cells #[.int .i64 10, .int .i64 n] 3)).setCell ⟨W0.heap.size, 1, none⟩ (.slice (some ⟨WP.heap.size, 0, none⟩) 2 2)) := by
          subst hbd hEB hmB
          exact St.badRow SX.out hd [10, n] (by simp) 1 (.slice (some ⟨WP.heap.size, 0, none⟩) 2 2) rfl
        have hcb : bd.after.length ≤ mB := by
          subst hbd hmB
          first | assumption | simp
        generalize (WP.alloc (.cells #[.int .i64 10, .int .i64 n] 3)).setCell ⟨W0.heap.size, 1, none⟩ (.slice (some ⟨WP.heap.size, 0, none⟩) 2 2) = WT0 at SB ⊢
        have T0 := Aside0.mk SB
        clear SB SX hbd hEB hmB
        obtain ⟨bc0, bc1, bc2, bc3, ac0, ac1, ac2, ac3⟩ := St.cells2 T0.out
        have z1 : decide (Lab.join a bd = Lab.zero) = true := decide_eq_true (Lab.join_bad_r hv)
        have z2 : decide (Lab.join bd a = Lab.zero) = true := decide_eq_true (Lab.join_bad_l hv)
        have q1 := Lab.leq_bad_l (y := a) hv
        have q2 := Lab.leq_bad_r (x := a) hv
        have q3 := Lab.leq_bad_l (y := bd) hv
        have q4 := Lab.allows_bad hv 0 1000000000 [n, 10] 5
        go_wp2_with (first | (have G_ := T9; clear G_; go_at_call 24; apply Calls.mono; apply allows_st (w := w) bd EB (some ⟨WT9.heap.size, 0, none⟩) mB 2 0 1000000000 [n, 10] 5; apply St.lit2; exact T9.out; (first | assumption | simp); (first | assumption | simp); (first | assumption | simp); (first | assumption | simp); rintro e WT10 ⟨rfl, h1_⟩; (first | rw [q4]); have T10 := Aside0.mk h1_; clear h1_; clear bc0 bc1 bc2 bc3 ac0 ac1 ac2 ac3; obtain ⟨bc0, bc1, bc2, bc3, ac0, ac1, ac2, ac3⟩ := St.cells2 T10.out) | (have G_ := T8; clear G_; go_at_call 20; apply Calls.mono; with_reducible apply leq_st (w := w) bd bd; exact T8.out; (first | assumption | simp); (first | assumption | simp); (first | assumption | simp); (first | assumption | simp); rintro e WT9 ⟨rfl, h1_⟩; (first | rw [q3]); have T9 := Aside0.mk h1_; clear h1_; clear bc0 bc1 bc2 bc3 ac0 ac1 ac2 ac3; obtain ⟨bc0, bc1, bc2, bc3, ac0, ac1, ac2, ac3⟩ := St.cells2 T9.out) | (have G_ := T7; clear G_; go_at_call 20; apply Calls.mono; with_reducible apply leq_st (w := w) a bd; exact T7.out; (first | assumption | simp); (first | assumption | simp); (first | assumption | simp); (first | assumption | simp); rintro e WT8 ⟨rfl, h1_⟩; (first | rw [q2]); have T8 := Aside0.mk h1_; clear h1_; clear bc0 bc1 bc2 bc3 ac0 ac1 ac2 ac3; obtain ⟨bc0, bc1, bc2, bc3, ac0, ac1, ac2, ac3⟩ := St.cells2 T8.out) | (have G_ := T6; clear G_; go_at_call 20; apply Calls.mono; with_reducible apply leq_st (w := w) bd a; exact T6.out; (first | assumption | simp); (first | assumption | simp); (first | assumption | simp); (first | assumption | simp); rintro e WT7 ⟨rfl, h1_⟩; (first | rw [q1]); have T7 := Aside0.mk h1_; clear h1_; clear bc0 bc1 bc2 bc3 ac0 ac1 ac2 ac3; obtain ⟨bc0, bc1, bc2, bc3, ac0, ac1, ac2, ac3⟩ := St.cells2 T7.out) | (have G_ := T5; clear G_; go_at_call 18; apply Calls.mono; with_reducible apply same_zr (w := w) (Lab.join bd a); exact T5.out; (first | assumption | simp); (first | assumption | simp); rintro e WT6 ⟨rfl, h1_⟩; (first | rw [z2]); have T6 := Aside0.mk h1_; clear h1_; clear bc0 bc1 bc2 bc3 ac0 ac1 ac2 ac3; obtain ⟨bc0, bc1, bc2, bc3, ac0, ac1, ac2, ac3⟩ := St.cells2 T6.out) | (have G_ := T4; clear G_; go_at_call 22; apply Calls.mono; with_reducible apply join_st (w := w) bd a; exact T4.out; (first | assumption | simp); (first | assumption | simp); (first | assumption | simp); (first | assumption | simp); rintro e WT5 ⟨EK, mK, rfl, hmK, h1_⟩; skip; have T5 := Aside0.mk h1_; clear h1_; clear bc0 bc1 bc2 bc3 ac0 ac1 ac2 ac3; obtain ⟨bc0, bc1, bc2, bc3, ac0, ac1, ac2, ac3⟩ := St.cells2 T5.out) | (have G_ := T3; clear G_; go_at_call 18; apply Calls.mono; with_reducible apply same_zr (w := w) (Lab.join a bd); exact T3.out; (first | assumption | simp); (first | assumption | simp); rintro e WT4 ⟨rfl, h1_⟩; (first | rw [z1]); have T4 := Aside0.mk h1_; clear h1_; clear bc0 bc1 bc2 bc3 ac0 ac1 ac2 ac3; obtain ⟨bc0, bc1, bc2, bc3, ac0, ac1, ac2, ac3⟩ := St.cells2 T4.out) | (have G_ := T2; clear G_; go_at_call 22; apply Calls.mono; with_reducible apply join_st (w := w) a bd; exact T2.out; (first | assumption | simp); (first | assumption | simp); (first | assumption | simp); (first | assumption | simp); rintro e WT3 ⟨EJ, mJ, rfl, hmJ, h1_⟩; skip; have T3 := Aside0.mk h1_; clear h1_; clear bc0 bc1 bc2 bc3 ac0 ac1 ac2 ac3; obtain ⟨bc0, bc1, bc2, bc3, ac0, ac1, ac2, ac3⟩ := St.cells2 T3.out) | (have G_ := T1; clear G_; go_at_call 16; apply Calls.mono; with_reducible apply valid_st (w := w) bd; exact T1.out; (first | assumption | simp); (first | assumption | simp); rintro e WT2 ⟨rfl, h1_⟩; (first | rw [hv]); have T2 := Aside0.mk h1_; clear h1_; clear bc0 bc1 bc2 bc3 ac0 ac1 ac2 ac3; obtain ⟨bc0, bc1, bc2, bc3, ac0, ac1, ac2, ac3⟩ := St.cells2 T2.out) | (have G_ := T0; clear G_; go_at_call 16; apply Calls.mono; with_reducible apply valid_st (w := w) a; exact T0.out; (first | assumption | simp); (first | assumption | simp); rintro e WT1 ⟨rfl, h1_⟩; (first | rw [va]); have T1 := Aside0.mk h1_; clear h1_; clear bc0 bc1 bc2 bc3 ac0 ac1 ac2 ac3; obtain ⟨bc0, bc1, bc2, bc3, ac0, ac1, ac2, ac3⟩ := St.cells2 T1.out))
        go_ret
        exact ⟨rfl, T10.out.bel⟩
    · have h1' : ¬ (n > 10) := h1
      have hv : Lab.valid bd = false := by
        subst hbd
        rw [Bool.eq_false_iff]
        intro h
        obtain ⟨b1, b2, b3, b4, b5, b6, b7, b8⟩ := Lab.valid_iff.1 h
        simp only [Lab.asc, List.mem_cons, List.not_mem_nil, or_false, forall_eq_or_imp, forall_eq, List.pairwise_cons, List.Pairwise.nil, and_true] at b1 b2 b3 b4 b5 b6 b7 b8
        omega
      go_upto_region 8 with (go_at_call 27; apply Calls.mono; apply pick_st wh 5 4 hr; rintro e WP ⟨rfl, hd⟩)
      have hbh := bad_heap hd
      have hbh2 := ((below_alloc (Below.refl WP.heap.size WP) (.cells #[.int .i64 10, .int .i64 n] 3)).block _ (Array.getElem?_eq_some_iff.1 hbh).1).trans hbh
      have hfr := frozen_of_heap hbh2 1
      have hce := cell_of_heap hbh2 1
      simp only [List.getElem?_toArray, List.getElem?_cons_zero, List.getElem?_cons_succ] at hce
      go_upto_region 20 with fail
      obtain ⟨EB, hEB⟩ : ∃ E : Option Addr, some ⟨WP.heap.size, 0, none⟩ = E := ⟨_, rfl⟩
      obtain ⟨mB, hmB⟩ : ∃ m : Nat, 2 = m := ⟨_, rfl⟩
      have SB : St w [(EB, bd.after), (Ea, a.after)] [(W0.heap.size, #[.int .i64 bd.u, .slice EB bd.after.length mB, .int .i64 bd.ap, .int .i64 bd.den], 26), (A, #[.int .i64 a.u, .slice Ea a.after.length ma, .int .i64 a.ap, .int .i64 a.den], 26)] ((WP.alloc (.cells #[.int .i64 10, .int .i64 n] 3)).setCell ⟨W0.heap.size, 1, none⟩ (.slice (some ⟨WP.heap.size, 0, none⟩) 2 2)) := by
        subst hbd hEB hmB
        exact St.badRow SX.out hd [10, n] (by simp) 1 (.slice (some ⟨WP.heap.size, 0, none⟩) 2 2) rfl
      have hcb : bd.after.length ≤ mB := by
        subst hbd hmB
        first | assumption | simp
      generalize (WP.alloc (.cells #[.int .i64 10, .int .i64 n] 3)).setCell ⟨W0.heap.size, 1, none⟩ (.slice (some ⟨WP.heap.size, 0, none⟩) 2 2) = WT0 at SB ⊢
      have T0 := Aside0.mk SB
      clear SB SX hbd hEB hmB
      obtain ⟨bc0, bc1, bc2, bc3, ac0, ac1, ac2, ac3⟩ := St.cells2 T0.out
      have z1 : decide (Lab.join a bd = Lab.zero) = true := decide_eq_true (Lab.join_bad_r hv)
      have z2 : decide (Lab.join bd a = Lab.zero) = true := decide_eq_true (Lab.join_bad_l hv)
      have q1 := Lab.leq_bad_l (y := a) hv
      have q2 := Lab.leq_bad_r (x := a) hv
      have q3 := Lab.leq_bad_l (y := bd) hv
      have q4 := Lab.allows_bad hv 0 1000000000 [n, 10] 5
      go_wp2_with (first | (have G_ := T9; clear G_; go_at_call 24; apply Calls.mono; apply allows_st (w := w) bd EB (some ⟨WT9.heap.size, 0, none⟩) mB 2 0 1000000000 [n, 10] 5; apply St.lit2; exact T9.out; (first | assumption | simp); (first | assumption | simp); (first | assumption | simp); (first | assumption | simp); rintro e WT10 ⟨rfl, h1_⟩; (first | rw [q4]); have T10 := Aside0.mk h1_; clear h1_; clear bc0 bc1 bc2 bc3 ac0 ac1 ac2 ac3; obtain ⟨bc0, bc1, bc2, bc3, ac0, ac1, ac2, ac3⟩ := St.cells2 T10.out) | (have G_ := T8; clear G_; go_at_call 20; apply Calls.mono; with_reducible apply leq_st (w := w) bd bd; exact T8.out; (first | assumption | simp); (first | assumption | simp); (first | assumption | simp); (first | assumption | simp); rintro e WT9 ⟨rfl, h1_⟩; (first | rw [q3]); have T9 := Aside0.mk h1_; clear h1_; clear bc0 bc1 bc2 bc3 ac0 ac1 ac2 ac3; obtain ⟨bc0, bc1, bc2, bc3, ac0, ac1, ac2, ac3⟩ := St.cells2 T9.out) | (have G_ := T7; clear G_; go_at_call 20; apply Calls.mono; with_reducible apply leq_st (w := w) a bd; exact T7.out; (first | assumption | simp); (first | assumption | simp); (first | assumption | simp); (first | assumption | simp); rintro e WT8 ⟨rfl, h1_⟩; (first | rw [q2]); have T8 := Aside0.mk h1_; clear h1_; clear bc0 bc1 bc2 bc3 ac0 ac1 ac2 ac3; obtain ⟨bc0, bc1, bc2, bc3, ac0, ac1, ac2, ac3⟩ := St.cells2 T8.out) | (have G_ := T6; clear G_; go_at_call 20; apply Calls.mono; with_reducible apply leq_st (w := w) bd a; exact T6.out; (first | assumption | simp); (first | assumption | simp); (first | assumption | simp); (first | assumption | simp); rintro e WT7 ⟨rfl, h1_⟩; (first | rw [q1]); have T7 := Aside0.mk h1_; clear h1_; clear bc0 bc1 bc2 bc3 ac0 ac1 ac2 ac3; obtain ⟨bc0, bc1, bc2, bc3, ac0, ac1, ac2, ac3⟩ := St.cells2 T7.out) | (have G_ := T5; clear G_; go_at_call 18; apply Calls.mono; with_reducible apply same_zr (w := w) (Lab.join bd a); exact T5.out; (first | assumption | simp); (first | assumption | simp); rintro e WT6 ⟨rfl, h1_⟩; (first | rw [z2]); have T6 := Aside0.mk h1_; clear h1_; clear bc0 bc1 bc2 bc3 ac0 ac1 ac2 ac3; obtain ⟨bc0, bc1, bc2, bc3, ac0, ac1, ac2, ac3⟩ := St.cells2 T6.out) | (have G_ := T4; clear G_; go_at_call 22; apply Calls.mono; with_reducible apply join_st (w := w) bd a; exact T4.out; (first | assumption | simp); (first | assumption | simp); (first | assumption | simp); (first | assumption | simp); rintro e WT5 ⟨EK, mK, rfl, hmK, h1_⟩; skip; have T5 := Aside0.mk h1_; clear h1_; clear bc0 bc1 bc2 bc3 ac0 ac1 ac2 ac3; obtain ⟨bc0, bc1, bc2, bc3, ac0, ac1, ac2, ac3⟩ := St.cells2 T5.out) | (have G_ := T3; clear G_; go_at_call 18; apply Calls.mono; with_reducible apply same_zr (w := w) (Lab.join a bd); exact T3.out; (first | assumption | simp); (first | assumption | simp); rintro e WT4 ⟨rfl, h1_⟩; (first | rw [z1]); have T4 := Aside0.mk h1_; clear h1_; clear bc0 bc1 bc2 bc3 ac0 ac1 ac2 ac3; obtain ⟨bc0, bc1, bc2, bc3, ac0, ac1, ac2, ac3⟩ := St.cells2 T4.out) | (have G_ := T2; clear G_; go_at_call 22; apply Calls.mono; with_reducible apply join_st (w := w) a bd; exact T2.out; (first | assumption | simp); (first | assumption | simp); (first | assumption | simp); (first | assumption | simp); rintro e WT3 ⟨EJ, mJ, rfl, hmJ, h1_⟩; skip; have T3 := Aside0.mk h1_; clear h1_; clear bc0 bc1 bc2 bc3 ac0 ac1 ac2 ac3; obtain ⟨bc0, bc1, bc2, bc3, ac0, ac1, ac2, ac3⟩ := St.cells2 T3.out) | (have G_ := T1; clear G_; go_at_call 16; apply Calls.mono; with_reducible apply valid_st (w := w) bd; exact T1.out; (first | assumption | simp); (first | assumption | simp); rintro e WT2 ⟨rfl, h1_⟩; (first | rw [hv]); have T2 := Aside0.mk h1_; clear h1_; clear bc0 bc1 bc2 bc3 ac0 ac1 ac2 ac3; obtain ⟨bc0, bc1, bc2, bc3, ac0, ac1, ac2, ac3⟩ := St.cells2 T2.out) | (have G_ := T0; clear G_; go_at_call 16; apply Calls.mono; with_reducible apply valid_st (w := w) a; exact T0.out; (first | assumption | simp); (first | assumption | simp); rintro e WT1 ⟨rfl, h1_⟩; (first | rw [va]); have T1 := Aside0.mk h1_; clear h1_; clear bc0 bc1 bc2 bc3 ac0 ac1 ac2 ac3; obtain ⟨bc0, bc1, bc2, bc3, ac0, ac1, ac2, ac3⟩ := St.cells2 T1.out))
      go_ret
      exact ⟨rfl, T10.out.bel⟩
end Go.Proofs.Ytngckofkbkhomaa
