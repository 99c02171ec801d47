/- The walk of the law LabelConditions: it tells true. -/
import Derived.Test.YtngckofkbkhomaaHLabSane
import Derived.Deep.RegionHeld3
import Derived.Test.YtngckofkbkhomaaHLabAppend
namespace Go.Proofs.Ytngckofkbkhomaa
open Go.RowKit Go.Lib Go.Proofs.Ytngckofkbkhomaa.PBase Go.Proofs.YtngckofkbkhomaaW.PrintWords Go.Proofs.YtngckofkbkhomaaW.PrintLast Go.Proofs.YtngckofkbkhomaaW.PrintMore
set_option linter.unusedVariables false
set_option linter.unusedSimpArgs false
set_option maxHeartbeats 64000000 in
set_option maxRecDepth 100000 in
theorem labelconditions_calls (w : World) (x0 x1 x2 x3 ms : Int) (hx : Rng x0 ∧ Rng x2 ∧ Rng x3) (hms : Rng ms) :
    Calls Try.prog 10 #[.agg #[.int .i64 x0, .int .i64 x1, .int .i64 x2, .int .i64 x3], .int .i64 ms] w fun e w' => e = .returned (.bool true) ∧ Below w.heap.size w w' := by
  have hu := Try.underlying26
  have hu2 := Try.underlying22
  obtain ⟨hx0, hx2, hx3⟩ := hx
  have S0 := Aside0.mk (St.start w)
  obtain ⟨a, ha⟩ : ∃ a, mk x0 x1 x2 x3 = a := ⟨_, rfl⟩
  have oa := Aside0.mk (ha ▸ mk_ok x0 x1 x2 x3 : Lab.Ok a)
  have hao := oa.out
  obtain ⟨a1, a2, a3, a4, a5, a6, a7, a8⟩ := hao
  go_enter Try.func10, Try.ntmps10
  go_upto_region 3 with (first | (have G_ := S1; clear G_; go_at_call 14; apply Calls.mono; apply make_st (w := w) x0 x1 x2 x3; exact S1.out; (first | assumption | simp); (first | assumption | simp); (first | assumption | simp); rintro e WS2 ⟨Ea, ma, rfl, hma, h1_⟩; rw [ha] at hma h1_ ⊢; (try simp only [World.size_alloc] at h1_); have S2 := Aside0.mk h1_; clear h1_; clear xc0 xc1 xc2 xc3 xn xm; have xc0 := S2.out.cell (b := w.heap.size) (cs := #[.int .i64 x0, .int .i64 x1, .int .i64 x2, .int .i64 x3]) (t := 22) (by simp) 0; have xc1 := S2.out.cell (b := w.heap.size) (cs := #[.int .i64 x0, .int .i64 x1, .int .i64 x2, .int .i64 x3]) (t := 22) (by simp) 1; have xc2 := S2.out.cell (b := w.heap.size) (cs := #[.int .i64 x0, .int .i64 x1, .int .i64 x2, .int .i64 x3]) (t := 22) (by simp) 2; have xc3 := S2.out.cell (b := w.heap.size) (cs := #[.int .i64 x0, .int .i64 x1, .int .i64 x2, .int .i64 x3]) (t := 22) (by simp) 3; have xn := World.new_ne WS2 ⟨w.heap.size, 0, none⟩ xc0; have xm := fun (o : Obj) (j : Nat) => World.cell?_alloc_lt WS2 o ⟨w.heap.size, j, none⟩ (World.block_lt_of_cell? WS2 ⟨w.heap.size, 0, none⟩ xc0)) | (have G_ := S0; clear G_; go_at_call 13; apply Calls.mono; apply sane_st (w := w); apply St.box; exact S0.out; rintro e WS1 ⟨rfl, h1_⟩; (try simp only [World.size_alloc] at h1_); have S1 := Aside0.mk h1_; clear h1_; have xc0 := S1.out.cell (b := w.heap.size) (cs := #[.int .i64 x0, .int .i64 x1, .int .i64 x2, .int .i64 x3]) (t := 22) (by simp) 0; have xc1 := S1.out.cell (b := w.heap.size) (cs := #[.int .i64 x0, .int .i64 x1, .int .i64 x2, .int .i64 x3]) (t := 22) (by simp) 1; have xc2 := S1.out.cell (b := w.heap.size) (cs := #[.int .i64 x0, .int .i64 x1, .int .i64 x2, .int .i64 x3]) (t := 22) (by simp) 2; have xc3 := S1.out.cell (b := w.heap.size) (cs := #[.int .i64 x0, .int .i64 x1, .int .i64 x2, .int .i64 x3]) (t := 22) (by simp) 3; have xn := World.new_ne WS1 ⟨w.heap.size, 0, none⟩ xc0; have xm := fun (o : Obj) (j : Nat) => World.cell?_alloc_lt WS1 o ⟨w.heap.size, j, none⟩ (World.block_lt_of_cell? WS1 ⟨w.heap.size, 0, none⟩ xc0)))
  have SB := St.box S2.out #[.int .i64 a.u, .slice Ea a.after.length ma, .int .i64 a.ap, .int .i64 a.den] 26
  generalize WS2.alloc (.cells #[.int .i64 a.u, .slice Ea a.after.length ma, .int .i64 a.ap, .int .i64 a.den] 26) = W0 at SB ⊢
  generalize WS2.heap.size = A at SB ⊢
  have SX : Aside0 (St w [(Ea, a.after)] [(A, #[.int .i64 a.u, .slice Ea a.after.length ma, .int .i64 a.ap, .int .i64 a.den], 26)] W0) := Aside0.mk (SB.sub (fun p hp => hp) (by simp))
  clear SB S0 S1 S2
  have hw1 : IntKind.i64.wrap (a.u - 1) = a.u - 1 := by
    rw [IntKind.wrap_i64]
    omega
  have hw2 : IntKind.i64.wrap (a.ap - 1) = a.ap - 1 := by
    rw [IntKind.wrap_i64]
    omega
  have AF := Aside0.mk (And.intro a1 (And.intro a2 (And.intro a3 (And.intro a4 (And.intro a5 (And.intro a6 (And.intro a7 a8)))))))
  clear a1 a2 a3 a4 a5 a6 a7 a8
  go_wp2
  go_loopg [5, 7] 5 (fun gk v5 v7 w' => ∃ i1 : Nat, v5 = .bool true ∧ v7 = .int .i64 i1 ∧ Aside0 (i1 ≤ 4 ∧ gk = 4 - i1 + 1 ∧ St w [(Ea, a.after)] [(A, #[.int .i64 a.u, .slice Ea a.after.length ma, .int .i64 a.ap, .int .i64 a.den], 26)] w'))
  case atStart => exact ⟨0, rfl, rfl, ⟨⟨by omega, by omega, SX.out⟩⟩⟩
  case round =>
    obtain ⟨i1, rfl, rfl, HI⟩ := hrel
    obtain ⟨hl1, hg1, SR⟩ := HI.out
    clear HI
    have R1 := Aside0.mk SR
    clear SR
    by_cases hi1 : i1 < 4
    · have hd1 : decide ((i1 : Int) < 4) = true := decide_eq_true (by omega)
      have t2 := Lab.allows_early oa.out (i1 : Int) a.after a.ap
      have t3 := Lab.allows_few oa.out (i1 : Int) a.u a.after
      have hz := Lab.bit_at AF.out.2.2.2.2.2.2.1 AF.out.2.2.2.2.2.2.2 i1 hi1
      have t1 := Lab.allows_just oa.out i1 hi1
      cases hb : Lab.bit a.den (i1 : Int) <;> rw [hb] at hz t1 <;> simp only [Bool.not_true, Bool.not_false] at hz t1
      all_goals (
        have ac0 := R1.out.cell (b := A) (cs := #[.int .i64 a.u, .slice Ea a.after.length ma, .int .i64 a.ap, .int .i64 a.den]) (t := 26) (by simp) 0
        have ac1 := R1.out.cell (b := A) (cs := #[.int .i64 a.u, .slice Ea a.after.length ma, .int .i64 a.ap, .int .i64 a.den]) (t := 26) (by simp) 1
        have ac2 := R1.out.cell (b := A) (cs := #[.int .i64 a.u, .slice Ea a.after.length ma, .int .i64 a.ap, .int .i64 a.den]) (t := 26) (by simp) 2
        have ac3 := R1.out.cell (b := A) (cs := #[.int .i64 a.u, .slice Ea a.after.length ma, .int .i64 a.ap, .int .i64 a.den]) (t := 26) (by simp) 3
        go_upto_region 8 with (first | (have G_ := R3; clear G_; go_at_call 24; apply Calls.mono; with_reducible apply allows_st (w := w) a; exact R3.out; (first | assumption | simp); (first | assumption | simp); (first | assumption | simp); (first | assumption | simp); rintro e WR4 ⟨rfl, h1_⟩; (first | rw [t3]); have R4 := Aside0.mk h1_; clear h1_; clear ac0 ac1 ac2 ac3; have ac0 := R4.out.cell (b := A) (cs := #[.int .i64 a.u, .slice Ea a.after.length ma, .int .i64 a.ap, .int .i64 a.den]) (t := 26) (by simp) 0; have ac1 := R4.out.cell (b := A) (cs := #[.int .i64 a.u, .slice Ea a.after.length ma, .int .i64 a.ap, .int .i64 a.den]) (t := 26) (by simp) 1; have ac2 := R4.out.cell (b := A) (cs := #[.int .i64 a.u, .slice Ea a.after.length ma, .int .i64 a.ap, .int .i64 a.den]) (t := 26) (by simp) 2; have ac3 := R4.out.cell (b := A) (cs := #[.int .i64 a.u, .slice Ea a.after.length ma, .int .i64 a.ap, .int .i64 a.den]) (t := 26) (by simp) 3) | (have G_ := R2; clear G_; go_at_call 24; apply Calls.mono; with_reducible apply allows_st (w := w) a; exact R2.out; (first | assumption | simp); (first | assumption | simp); (first | assumption | simp); (first | assumption | simp); rintro e WR3 ⟨rfl, h1_⟩; (first | rw [t2]); have R3 := Aside0.mk h1_; clear h1_; clear ac0 ac1 ac2 ac3; have ac0 := R3.out.cell (b := A) (cs := #[.int .i64 a.u, .slice Ea a.after.length ma, .int .i64 a.ap, .int .i64 a.den]) (t := 26) (by simp) 0; have ac1 := R3.out.cell (b := A) (cs := #[.int .i64 a.u, .slice Ea a.after.length ma, .int .i64 a.ap, .int .i64 a.den]) (t := 26) (by simp) 1; have ac2 := R3.out.cell (b := A) (cs := #[.int .i64 a.u, .slice Ea a.after.length ma, .int .i64 a.ap, .int .i64 a.den]) (t := 26) (by simp) 2; have ac3 := R3.out.cell (b := A) (cs := #[.int .i64 a.u, .slice Ea a.after.length ma, .int .i64 a.ap, .int .i64 a.den]) (t := 26) (by simp) 3) | (have G_ := R1; clear G_; go_at_call 24; apply Calls.mono; with_reducible apply allows_st (w := w) a; exact R1.out; (first | assumption | simp); (first | assumption | simp); (first | assumption | simp); (first | assumption | simp); rintro e WR2 ⟨rfl, h1_⟩; (first | rw [t1]); have R2 := Aside0.mk h1_; clear h1_; clear ac0 ac1 ac2 ac3; have ac0 := R2.out.cell (b := A) (cs := #[.int .i64 a.u, .slice Ea a.after.length ma, .int .i64 a.ap, .int .i64 a.den]) (t := 26) (by simp) 0; have ac1 := R2.out.cell (b := A) (cs := #[.int .i64 a.u, .slice Ea a.after.length ma, .int .i64 a.ap, .int .i64 a.den]) (t := 26) (by simp) 1; have ac2 := R2.out.cell (b := A) (cs := #[.int .i64 a.u, .slice Ea a.after.length ma, .int .i64 a.ap, .int .i64 a.den]) (t := 26) (by simp) 2; have ac3 := R2.out.cell (b := A) (cs := #[.int .i64 a.u, .slice Ea a.after.length ma, .int .i64 a.ap, .int .i64 a.den]) (t := 26) (by simp) 3))
        by_cases hn : 0 < a.after.length
        · have hn' : ((a.after.length : Nat) : Int) > 0 := by omega
          obtain ⟨k, hk, hk0, hk1⟩ := pick_f ms (a.after.length : Int) hms (by omega)
          obtain ⟨kn, rfl⟩ : ∃ m : Nat, k = (m : Int) := ⟨k.toNat, by omega⟩
          go_upto_region 10 with (go_at_call 27; apply Calls.mono; apply pick_st ms _ (kn : Int) hk; rintro e WP ⟨rfl, hd⟩)
          have SP := R4.out.step hd.below
          have SD := Aside0.mk (St.drew SP)
          have K : Aside0 (∀ (L : List (Option Addr × List Int)) (W : World), St w L [(A, #[.int .i64 a.u, .slice Ea a.after.length ma, .int .i64 a.ap, .int .i64 a.den], 26)] W → W.cell? ⟨A, 1, none⟩ = some (.slice Ea a.after.length ma)) := Aside0.mk (fun L W h => h.cell (b := A) (cs := #[.int .i64 a.u, .slice Ea a.after.length ma, .int .i64 a.ap, .int .i64 a.den]) (t := 26) (by simp) 1)
          have hmk : ∀ w, (Instr.makeSlice 23 (.int .i64 0) (.int .i64 64)).run Try.prog w = .ok (.slice (some ⟨w.heap.size, 0, none⟩) 0 64) (w.alloc (.cells (madeCells #[.int .i64 0] 64) 3)) := make_ints 64 (by omega)
          have hk2 : ((kn : Nat) : Int) ≤ (a.after.length : Int) := by omega
          have hk3 : ((kn : Nat) : Int) + 1 ≤ (a.after.length : Int) := by omega
          have hlen := Lab.len_le oa.out
          have hk4 : kn ≤ ma := by omega
          have hk5 : kn + 1 ≤ a.after.length := by omega
          have hk6 : kn + 1 ≤ ma := by omega
          have hk7 : (0 : Int) ≤ (kn : Int) + 1 := by omega
          have hkw : IntKind.i64.wrap ((kn : Int) + 1) = (kn : Int) + 1 := by
            rw [IntKind.wrap_i64]
            have := R4.out.get (A := Ea) (l := a.after) (by simp)
            have := Kd.C_max this
            omega
          refine wp_region_held_drew (S := (fun W => W.cell? ⟨A, 1, none⟩ = some (.slice Ea a.after.length ma))) (by kernel_rfl) (by (try dsimp only); (with_reducible exact K.out _ _ SD.out)) (fun hHeld => ?_)
          obtain ⟨WD, hWD⟩ : ∃ W, WP.drew = W := ⟨_, rfl⟩
          rw [hWD] at SD hHeld ⊢
          first | refine reg_tk 1 ?_ | refine reg_sk 1 ?_ | fail
          (try simp only [Act.put, List.setIfInBounds_toArray, List.set_cons_zero, List.set_cons_succ])
          first | refine reg_tk 2 ?_ | refine reg_sk 2 ?_ | fail
          (try simp only [Act.put, List.setIfInBounds_toArray, List.set_cons_zero, List.set_cons_succ])
          first | refine reg_tk 3 ?_ | refine reg_sk 3 ?_ | fail
          (try simp only [Act.put, List.setIfInBounds_toArray, List.set_cons_zero, List.set_cons_succ])
          first | refine reg_tk 4 ?_ | refine reg_sk 4 ?_ | fail
          (try simp only [Act.put, List.setIfInBounds_toArray, List.set_cons_zero, List.set_cons_succ])
          first | refine reg_tk 6 ?_ | refine reg_sk 6 ?_ | fail
          (try simp only [Act.put, List.setIfInBounds_toArray, List.set_cons_zero, List.set_cons_succ])
          first | refine reg_tk 7 ?_ | refine reg_sk 7 ?_ | fail
          (try simp only [Act.put, List.setIfInBounds_toArray, List.set_cons_zero, List.set_cons_succ])
          first | refine reg_tk 8 ?_ | refine reg_sk 8 ?_ | fail
          (try simp only [Act.put, List.setIfInBounds_toArray, List.set_cons_zero, List.set_cons_succ])
          first | refine reg_tk 9 ?_ | refine reg_sk 9 ?_ | fail
          (try simp only [Act.put, List.setIfInBounds_toArray, List.set_cons_zero, List.set_cons_succ])
          first | refine reg_tk 10 ?_ | refine reg_sk 10 ?_ | fail
          (try simp only [Act.put, List.setIfInBounds_toArray, List.set_cons_zero, List.set_cons_succ])
          refine reg_one 0 (fun KK_ hKK_ => ?_)
          go_simp
          have HO := own_made 64 (by omega) WD
          have HB : Below WD.heap.size WD (WD.alloc (.cells (madeCells #[.int .i64 0] 64) 3)) := below_alloc (Below.refl _ _) _
          generalize WD.alloc (.cells (madeCells #[.int .i64 0] 64) 3) = W1 at HO HB ⊢
          generalize (Value.slice (some ⟨WD.heap.size, 0, none⟩) 0 64) = q0 at HO ⊢
          refine hKK_.out _ _ (K.out _ _ (SD.out.step HB)) (fun hHeld => ?_)
          clear hKK_ KK_
          (try simp only [Act.put, List.setIfInBounds_toArray, List.set_cons_zero, List.set_cons_succ])
          refine reg_one 5 (fun KK_ hKK_ => ?_)
          have HR1 : Kd.C (Kd.int .i64) W1 Ea kn (a.after.take kn) := by
            have h := Kd.C_take (Kd.C_below (SD.out.get (A := Ea) (l := a.after) (by simp)) HB) (m := kn) (by omega)
            rwa [List.length_take, Nat.min_eq_left (by omega)] at h
          refine wp_append_ints (base := WD.heap.size) (xs := []) (ys := a.after.take kn) rfl rfl rfl rfl HO HR1 HB.size (by simp only [List.length_nil]; omega) ?_
          intro q1 W2 HO2 hb2
          have HB2 := HB.trans hb2
          refine hKK_.out _ _ (K.out _ _ (SD.out.step HB2)) (fun hHeld => ?_)
          clear hKK_ KK_ HO hb2 HR1
          (try simp only [Act.put, List.setIfInBounds_toArray, List.set_cons_zero, List.set_cons_succ])
          refine reg_one 11 (fun KK_ hKK_ => ?_)
          refine wp_append_ints (base := WD.heap.size) (xs := [] ++ a.after.take kn) (ys := a.after.drop (kn + 1)) rfl rfl rfl rfl HO2 (by
            have h := Kd.C_drop (c := ma) (Kd.C_below (SD.out.get (A := Ea) (l := a.after) (by simp)) HB2) (m := kn + 1) (by omega) (by omega)
            simp only [List.length_drop, show (Kd.int .i64).sz = 1 from rfl, Nat.mul_one] at h
            exact h) HB2.size (by simp only [List.nil_append, List.length_take]; omega) ?_
          intro q2 W3 HO3 hb3
          have HB3 := HB2.trans hb3
          refine hKK_.out _ _ (K.out _ _ (SD.out.step HB3)) (fun hHeld => ?_)
          clear hKK_ KK_ HO2 hb3
          (try simp only [Act.put, List.setIfInBounds_toArray, List.set_cons_zero, List.set_cons_succ])
          first | refine reg_tk 12 ?_ | refine reg_sk 12 ?_ | fail
          (try simp only [Act.put, List.setIfInBounds_toArray, List.set_cons_zero, List.set_cons_succ])
          refine wpAnyH_done (by kernel_rfl) ?_ _
          generalize (if ma = kn + 1 then Ea else Option.map (fun x : Addr => ({ block := x.block, off := x.off + (kn + 1), spot := none } : Addr)) Ea) = E2
          rw [List.nil_append] at HO3
          have hlack := take_drop_lack AF.out.2.2.2.1 kn (by omega)
          have t4 := Lab.allows_lack (x := a) (i1 : Int) a.u _ a.ap _ (List.getElem_mem (by omega)) hlack
          generalize hle : a.after.take kn ++ a.after.drop (kn + 1) = less at HO3 t4
          obtain ⟨El, ml, rfl, hml, hCl⟩ := own_reads HO3
          have Q1 := Aside0.mk (St.add (SD.out.step HB3) hCl)
          clear HO3 HB HB2 HB3 hCl hHeld K SD hle hlack hWD
          have ac0 := Q1.out.cell (b := A) (cs := #[.int .i64 a.u, .slice Ea a.after.length ma, .int .i64 a.ap, .int .i64 a.den]) (t := 26) (by simp) 0
          have ac1 := Q1.out.cell (b := A) (cs := #[.int .i64 a.u, .slice Ea a.after.length ma, .int .i64 a.ap, .int .i64 a.den]) (t := 26) (by simp) 1
          have ac2 := Q1.out.cell (b := A) (cs := #[.int .i64 a.u, .slice Ea a.after.length ma, .int .i64 a.ap, .int .i64 a.den]) (t := 26) (by simp) 2
          have ac3 := Q1.out.cell (b := A) (cs := #[.int .i64 a.u, .slice Ea a.after.length ma, .int .i64 a.ap, .int .i64 a.den]) (t := 26) (by simp) 3
          go_wp2_with (first | (have G_ := Q1; clear G_; go_at_call 24; apply Calls.mono; with_reducible apply allows_st (w := w) a; exact Q1.out; (first | assumption | simp); (first | assumption | simp); (first | assumption | simp); (first | assumption | simp); rintro e WQ2 ⟨rfl, h1_⟩; (first | rw [t4]); have Q2 := Aside0.mk h1_; clear h1_; clear ac0 ac1 ac2 ac3; have ac0 := Q2.out.cell (b := A) (cs := #[.int .i64 a.u, .slice Ea a.after.length ma, .int .i64 a.ap, .int .i64 a.den]) (t := 26) (by simp) 0; have ac1 := Q2.out.cell (b := A) (cs := #[.int .i64 a.u, .slice Ea a.after.length ma, .int .i64 a.ap, .int .i64 a.den]) (t := 26) (by simp) 1; have ac2 := Q2.out.cell (b := A) (cs := #[.int .i64 a.u, .slice Ea a.after.length ma, .int .i64 a.ap, .int .i64 a.den]) (t := 26) (by simp) 2; have ac3 := Q2.out.cell (b := A) (cs := #[.int .i64 a.u, .slice Ea a.after.length ma, .int .i64 a.ap, .int .i64 a.den]) (t := 26) (by simp) 3))
          go_roundg (4 - i1)
          (case rel => exact ⟨i1 + 1, rfl, by simp, ⟨⟨by omega, by omega, Q2.out.tailRow⟩⟩⟩)
          (case measure => omega)
        · have hn' : ¬ (((a.after.length : Nat) : Int) > 0) := by omega
          go_wp2
          go_roundg (4 - i1)
          (case rel => exact ⟨i1 + 1, rfl, by simp, ⟨⟨by omega, by omega, R4.out⟩⟩⟩)
          (case measure => omega))
    · obtain rfl : i1 = 4 := by omega
      have ac0 := R1.out.cell (b := A) (cs := #[.int .i64 a.u, .slice Ea a.after.length ma, .int .i64 a.ap, .int .i64 a.den]) (t := 26) (by simp) 0
      have ac1 := R1.out.cell (b := A) (cs := #[.int .i64 a.u, .slice Ea a.after.length ma, .int .i64 a.ap, .int .i64 a.den]) (t := 26) (by simp) 1
      have ac2 := R1.out.cell (b := A) (cs := #[.int .i64 a.u, .slice Ea a.after.length ma, .int .i64 a.ap, .int .i64 a.den]) (t := 26) (by simp) 2
      have ac3 := R1.out.cell (b := A) (cs := #[.int .i64 a.u, .slice Ea a.after.length ma, .int .i64 a.ap, .int .i64 a.den]) (t := 26) (by simp) 3
      have t5 := Lab.allows_out (x := a) (-1) a.u a.after a.ap (by omega)
      have t6 := Lab.allows_out (x := a) 4 a.u a.after a.ap (by omega)
      go_wp2_with (first | (have G_ := R2; clear G_; go_at_call 24; apply Calls.mono; with_reducible apply allows_st (w := w) a; exact R2.out; (first | assumption | simp); (first | assumption | simp); (first | assumption | simp); (first | assumption | simp); rintro e WR3 ⟨rfl, h1_⟩; (first | rw [t6]); have R3 := Aside0.mk h1_; clear h1_; clear ac0 ac1 ac2 ac3; have ac0 := R3.out.cell (b := A) (cs := #[.int .i64 a.u, .slice Ea a.after.length ma, .int .i64 a.ap, .int .i64 a.den]) (t := 26) (by simp) 0; have ac1 := R3.out.cell (b := A) (cs := #[.int .i64 a.u, .slice Ea a.after.length ma, .int .i64 a.ap, .int .i64 a.den]) (t := 26) (by simp) 1; have ac2 := R3.out.cell (b := A) (cs := #[.int .i64 a.u, .slice Ea a.after.length ma, .int .i64 a.ap, .int .i64 a.den]) (t := 26) (by simp) 2; have ac3 := R3.out.cell (b := A) (cs := #[.int .i64 a.u, .slice Ea a.after.length ma, .int .i64 a.ap, .int .i64 a.den]) (t := 26) (by simp) 3) | (have G_ := R1; clear G_; go_at_call 24; apply Calls.mono; with_reducible apply allows_st (w := w) a; exact R1.out; (first | assumption | simp); (first | assumption | simp); (first | assumption | simp); (first | assumption | simp); rintro e WR2 ⟨rfl, h1_⟩; (first | rw [t5]); have R2 := Aside0.mk h1_; clear h1_; clear ac0 ac1 ac2 ac3; have ac0 := R2.out.cell (b := A) (cs := #[.int .i64 a.u, .slice Ea a.after.length ma, .int .i64 a.ap, .int .i64 a.den]) (t := 26) (by simp) 0; have ac1 := R2.out.cell (b := A) (cs := #[.int .i64 a.u, .slice Ea a.after.length ma, .int .i64 a.ap, .int .i64 a.den]) (t := 26) (by simp) 1; have ac2 := R2.out.cell (b := A) (cs := #[.int .i64 a.u, .slice Ea a.after.length ma, .int .i64 a.ap, .int .i64 a.den]) (t := 26) (by simp) 2; have ac3 := R2.out.cell (b := A) (cs := #[.int .i64 a.u, .slice Ea a.after.length ma, .int .i64 a.ap, .int .i64 a.den]) (t := 26) (by simp) 3))
      go_ret
      exact ⟨rfl, R3.out.bel⟩
end Go.Proofs.Ytngckofkbkhomaa
