/- The walk of the law LabelMemory: it tells true. -/
import Derived.Test.YtngckofkbkhomaaHLabSane
import Derived.Deep.RegionHeld3
import Derived.Test.YtngckofkbkhomaaHLabMem
import Derived.Deep.DeepCutAuto
namespace Go.Proofs.Ytngckofkbkhomaa
open Go.RowKit Go.Lib Go.Proofs.Ytngckofkbkhomaa.PBase Go.Proofs.YtngckofkbkhomaaW.PrintWords Go.Proofs.YtngckofkbkhomaaW.PrintLast Go.Proofs.YtngckofkbkhomaaW.PrintMore
set_option linter.unusedVariables false
set_option linter.unusedSimpArgs false
set_option maxHeartbeats 64000000 in
set_option maxRecDepth 100000 in
theorem labelmemory_calls (w : World) (x0 x1 x2 x3 y0 y1 y2 y3 : Int) (hx : Rng x0 ∧ Rng x2 ∧ Rng x3) (hy : Rng y0 ∧ Rng y2 ∧ Rng y3) :
    Calls Try.prog 12 #[.agg #[.int .i64 x0, .int .i64 x1, .int .i64 x2, .int .i64 x3], .agg #[.int .i64 y0, .int .i64 y1, .int .i64 y2, .int .i64 y3]] w fun e w' => e = .returned (.bool true) ∧ Below w.heap.size w w' := by
  have hu := Try.underlying26
  have hu2 := Try.underlying22
  obtain ⟨hx0, hx2, hx3⟩ := hx
  obtain ⟨hy0, hy2, hy3⟩ := hy
  have S0 := Aside0.mk (St.start w)
  obtain ⟨a, ha⟩ : ∃ a, mk x0 x1 x2 x3 = a := ⟨_, rfl⟩
  have oa := Aside0.mk (ha ▸ mk_ok x0 x1 x2 x3 : Lab.Ok a)
  obtain ⟨b, hb⟩ : ∃ b, mk y0 y1 y2 y3 = b := ⟨_, rfl⟩
  have ob := Aside0.mk (hb ▸ mk_ok y0 y1 y2 y3 : Lab.Ok b)
  obtain ⟨j, hj⟩ : ∃ j, Lab.join a b = j := ⟨_, rfl⟩
  have oj := Aside0.mk (hj ▸ Lab.ok_join oa.out ob.out : Lab.Ok j)
  go_enter Try.func12, Try.ntmps12
  go_upto_region 4 with (first | (have G_ := S2; clear G_; (try dsimp only at xn yn); have NX := Aside0.mk (And.intro xn yn); go_at_call 14; apply Calls.mono; apply make_st2 (w := w) y0 y1 y2 y3; apply St.box; exact S2.out; (first | assumption | simp); (first | assumption | simp); (first | assumption | simp); rintro e W3 ⟨Eb, mb, rfl, hmb, h1_, hEb⟩; rw [hb] at hmb h1_ ⊢; (try simp only [World.size_alloc] at h1_ hEb); have S3 := Aside0.mk h1_; clear h1_; have HEb := Aside0.mk hEb; clear hEb; clear xc0 xc1 xc2 xc3 yc0 yc1 yc2 yc3 xn xm yn ym; have ban := World.new_ne W3 ⟨WS2.heap.size, 0, none⟩ (S3.out.cell (b := WS2.heap.size) (cs := #[.int .i64 a.u, .slice Ea a.after.length ma, .int .i64 a.ap, .int .i64 a.den]) (t := 26) (by simp) 0); (try dsimp only at ban); have NB := Aside0.mk ban; clear ban; have ac0 := S3.out.cell (b := WS2.heap.size) (cs := #[.int .i64 a.u, .slice Ea a.after.length ma, .int .i64 a.ap, .int .i64 a.den]) (t := 26) (by simp) 0; have ac1 := S3.out.cell (b := WS2.heap.size) (cs := #[.int .i64 a.u, .slice Ea a.after.length ma, .int .i64 a.ap, .int .i64 a.den]) (t := 26) (by simp) 1; have ac2 := S3.out.cell (b := WS2.heap.size) (cs := #[.int .i64 a.u, .slice Ea a.after.length ma, .int .i64 a.ap, .int .i64 a.den]) (t := 26) (by simp) 2; have ac3 := S3.out.cell (b := WS2.heap.size) (cs := #[.int .i64 a.u, .slice Ea a.after.length ma, .int .i64 a.ap, .int .i64 a.den]) (t := 26) (by simp) 3; have an := World.new_ne W3 ⟨WS2.heap.size, 0, none⟩ ac0; have am := fun (o : Obj) (j : Nat) => World.cell?_alloc_lt W3 o ⟨WS2.heap.size, j, none⟩ (World.block_lt_of_cell? W3 ⟨WS2.heap.size, 0, none⟩ ac0)) | (have G_ := S1; clear G_; go_at_call 14; apply Calls.mono; apply make_st (w := w) x0 x1 x2 x3; exact S1.out; (first | assumption | simp); (first | assumption | simp); (first | assumption | simp); rintro e WS2 ⟨Ea, ma, rfl, hma, h1_⟩; rw [ha] at hma h1_ ⊢; (try simp only [World.size_alloc] at h1_); have S2 := Aside0.mk h1_; clear h1_; clear xc0 xc1 xc2 xc3 yc0 yc1 yc2 yc3 xn xm yn ym; have xc0 := S2.out.cell (b := w.heap.size) (cs := #[.int .i64 x0, .int .i64 x1, .int .i64 x2, .int .i64 x3]) (t := 22) (by simp) 0; have xc1 := S2.out.cell (b := w.heap.size) (cs := #[.int .i64 x0, .int .i64 x1, .int .i64 x2, .int .i64 x3]) (t := 22) (by simp) 1; have xc2 := S2.out.cell (b := w.heap.size) (cs := #[.int .i64 x0, .int .i64 x1, .int .i64 x2, .int .i64 x3]) (t := 22) (by simp) 2; have xc3 := S2.out.cell (b := w.heap.size) (cs := #[.int .i64 x0, .int .i64 x1, .int .i64 x2, .int .i64 x3]) (t := 22) (by simp) 3; have xn := World.new_ne WS2 ⟨w.heap.size, 0, none⟩ xc0; have xm := fun (o : Obj) (j : Nat) => World.cell?_alloc_lt WS2 o ⟨w.heap.size, j, none⟩ (World.block_lt_of_cell? WS2 ⟨w.heap.size, 0, none⟩ xc0); have yc0 := S2.out.cell (b := w.heap.size + 1) (cs := #[.int .i64 y0, .int .i64 y1, .int .i64 y2, .int .i64 y3]) (t := 22) (by simp) 0; have yc1 := S2.out.cell (b := w.heap.size + 1) (cs := #[.int .i64 y0, .int .i64 y1, .int .i64 y2, .int .i64 y3]) (t := 22) (by simp) 1; have yc2 := S2.out.cell (b := w.heap.size + 1) (cs := #[.int .i64 y0, .int .i64 y1, .int .i64 y2, .int .i64 y3]) (t := 22) (by simp) 2; have yc3 := S2.out.cell (b := w.heap.size + 1) (cs := #[.int .i64 y0, .int .i64 y1, .int .i64 y2, .int .i64 y3]) (t := 22) (by simp) 3; have yn := World.new_ne WS2 ⟨w.heap.size + 1, 0, none⟩ yc0; have ym := fun (o : Obj) (j : Nat) => World.cell?_alloc_lt WS2 o ⟨w.heap.size + 1, j, none⟩ (World.block_lt_of_cell? WS2 ⟨w.heap.size + 1, 0, none⟩ yc0)) | (have G_ := S0; clear G_; go_at_call 13; apply Calls.mono; apply sane_st (w := w); apply St.box; apply St.box; exact S0.out; rintro e WS1 ⟨rfl, h1_⟩; (try simp only [World.size_alloc] at h1_); have S1 := Aside0.mk h1_; clear h1_; have xc0 := S1.out.cell (b := w.heap.size) (cs := #[.int .i64 x0, .int .i64 x1, .int .i64 x2, .int .i64 x3]) (t := 22) (by simp) 0; have xc1 := S1.out.cell (b := w.heap.size) (cs := #[.int .i64 x0, .int .i64 x1, .int .i64 x2, .int .i64 x3]) (t := 22) (by simp) 1; have xc2 := S1.out.cell (b := w.heap.size) (cs := #[.int .i64 x0, .int .i64 x1, .int .i64 x2, .int .i64 x3]) (t := 22) (by simp) 2; have xc3 := S1.out.cell (b := w.heap.size) (cs := #[.int .i64 x0, .int .i64 x1, .int .i64 x2, .int .i64 x3]) (t := 22) (by simp) 3; have xn := World.new_ne WS1 ⟨w.heap.size, 0, none⟩ xc0; have xm := fun (o : Obj) (j : Nat) => World.cell?_alloc_lt WS1 o ⟨w.heap.size, j, none⟩ (World.block_lt_of_cell? WS1 ⟨w.heap.size, 0, none⟩ xc0); have yc0 := S1.out.cell (b := w.heap.size + 1) (cs := #[.int .i64 y0, .int .i64 y1, .int .i64 y2, .int .i64 y3]) (t := 22) (by simp) 0; have yc1 := S1.out.cell (b := w.heap.size + 1) (cs := #[.int .i64 y0, .int .i64 y1, .int .i64 y2, .int .i64 y3]) (t := 22) (by simp) 1; have yc2 := S1.out.cell (b := w.heap.size + 1) (cs := #[.int .i64 y0, .int .i64 y1, .int .i64 y2, .int .i64 y3]) (t := 22) (by simp) 2; have yc3 := S1.out.cell (b := w.heap.size + 1) (cs := #[.int .i64 y0, .int .i64 y1, .int .i64 y2, .int .i64 y3]) (t := 22) (by simp) 3; have yn := World.new_ne WS1 ⟨w.heap.size + 1, 0, none⟩ yc0; have ym := fun (o : Obj) (j : Nat) => World.cell?_alloc_lt WS1 o ⟨w.heap.size + 1, j, none⟩ (World.block_lt_of_cell? WS1 ⟨w.heap.size + 1, 0, none⟩ yc0)))
  have SB := St.box S3.out #[.int .i64 b.u, .slice Eb b.after.length mb, .int .i64 b.ap, .int .i64 b.den] 26
  clear S0 S1 S2 S3
  clear ac0 ac1 ac2 ac3 an am
  generalize W3.alloc (.cells #[.int .i64 b.u, .slice Eb b.after.length mb, .int .i64 b.ap, .int .i64 b.den] 26) = W0 at SB ⊢
  generalize W3.heap.size = Bb at SB NB ⊢
  generalize WS2.heap.size = Ba at SB NX NB HEb ⊢
  have hal := Lab.len_le oa.out
  have hbl := Lab.len_le ob.out
  have SS := Aside0.mk (St.drew SB)
  clear SB
  go_cut [6] from 18 (fun v6 w' => ∃ G : Nat, v6 = .pointer (some ⟨Ba, 0, none⟩) ∧ Aside0 (St w [(some ⟨G, 0, none⟩, a.after), (Eb, b.after)] [(Ba, #[.int .i64 a.u, .slice (some ⟨G, 0, none⟩) a.after.length 200, .int .i64 a.ap, .int .i64 a.den], 26), (Bb, #[.int .i64 b.u, .slice Eb b.after.length mb, .int .i64 b.ap, .int .i64 b.den], 26), (w.heap.size, #[.int .i64 x0, .int .i64 x1, .int .i64 x2, .int .i64 x3], 22), (w.heap.size + 1, #[.int .i64 y0, .int .i64 y1, .int .i64 y2, .int .i64 y3], 22), (G, roomy a.after 200, 3)] w'))
  case first =>
    have hmk : ∀ w, (Instr.makeSlice 23 (.int .i64 0) (.int .i64 200)).run Try.prog w = .ok (.slice (some ⟨w.heap.size, 0, none⟩) 0 200) (w.alloc (.cells (madeCells #[.int .i64 0] 200) 3)) := make_ints 200 (by omega)
    refine wp_region_held_drew (S := fun _ => True) (by kernel_rfl) trivial (fun _ => ?_)
    generalize W0.drew = WD at SS ⊢
    have hc1 := SS.out.cell (b := Ba) (cs := #[.int .i64 a.u, .slice Ea a.after.length ma, .int .i64 a.ap, .int .i64 a.den]) (t := 26) (by simp) 1
    refine reg_tk 1 ?_
    (try simp only [Act.put, List.setIfInBounds_toArray, List.set_cons_zero, List.set_cons_succ])
    refine reg_two 0 2 (fun KK_ hKK_ => ?_) (fun KK_ hKK_ => ?_)
    · go_simp
      have hgm := heap_alloc_new WD (.cells (madeCells #[.int .i64 0] 200) 3)
      have HB : Below WD.heap.size WD (WD.alloc (.cells (madeCells #[.int .i64 0] 200) 3)) := below_alloc (Below.refl _ _) _
      generalize WD.alloc (.cells (madeCells #[.int .i64 0] 200) 3) = W1 at hgm HB ⊢
      have S1 := Aside0.mk (SS.out.step HB)
      have hc2 := S1.out.cell (b := Ba) (cs := #[.int .i64 a.u, .slice Ea a.after.length ma, .int .i64 a.ap, .int .i64 a.den]) (t := 26) (by simp) 1
      refine hKK_.out _ _ trivial (fun _ => ?_)
      clear hKK_ KK_
      (try simp only [Act.put, List.setIfInBounds_toArray, List.set_cons_zero, List.set_cons_succ])
      refine reg_one 2 (fun KK_ hKK_ => ?_)
      go_simp
      refine hKK_.out _ _ trivial (fun _ => ?_)
      clear hKK_ KK_
      (try simp only [Act.put, List.setIfInBounds_toArray, List.set_cons_zero, List.set_cons_succ])
      refine reg_one 3 (fun KK_ hKK_ => ?_)
      refine wp_append_room (g := WD.heap.size) (c := 200) (xs := a.after) rfl rfl rfl rfl hgm (S1.out.get (A := Ea) (l := a.after) (by simp)) (by omega) ?_
      intro W2 hg2 hk2 hb2
      refine hKK_.out _ _ trivial (fun _ => ?_)
      clear hKK_ KK_
      (try simp only [Act.put, List.setIfInBounds_toArray, List.set_cons_zero, List.set_cons_succ])
      refine reg_tk 4 ?_
      (try simp only [Act.put, List.setIfInBounds_toArray, List.set_cons_zero, List.set_cons_succ])
      have HB2 := hb2 _ _ (Nat.le_refl _) HB
      have S2 := Aside0.mk (((SS.out.step HB2).addBox SS.out.bel.size hg2).add (roomy_C hg2 (by omega) (by omega)))
      have hc3 := S2.out.cell (b := Ba) (cs := #[.int .i64 a.u, .slice Ea a.after.length ma, .int .i64 a.ap, .int .i64 a.den]) (t := 26) (by simp) 1
      have hf3 := frozen_of_heap (S2.out.boxes (Ba, #[.int .i64 a.u, .slice Ea a.after.length ma, .int .i64 a.ap, .int .i64 a.den], 26) (by simp)).2 1
      refine reg_one 5 (fun KK_ hKK_ => ?_)
      go_simp
      refine hKK_.out _ _ trivial (fun _ => ?_)
      clear hKK_ KK_
      refine wpAnyH_done (by kernel_rfl) ?_ _
      have hltG : Ba < WD.heap.size := World.block_lt_of_cell? WD ⟨Ba, 0, none⟩ (SS.out.cell (b := Ba) (cs := #[.int .i64 a.u, .slice Ea a.after.length ma, .int .i64 a.ap, .int .i64 a.den]) (t := 26) (by simp) 0)
      go_wp2_with fail
      go_meet
      case rel =>
        refine ⟨WD.heap.size, rfl, ⟨St.sub (St.put (b := Ba) (t := 26) (cs := #[.int .i64 a.u, .slice Ea a.after.length ma, .int .i64 a.ap, .int .i64 a.den]) (L' := [(some ⟨WD.heap.size, 0, none⟩, a.after), (Eb, b.after)]) (M := [(Bb, #[.int .i64 b.u, .slice Eb b.after.length mb, .int .i64 b.ap, .int .i64 b.den], 26), (w.heap.size, #[.int .i64 x0, .int .i64 x1, .int .i64 x2, .int .i64 x3], 22), (w.heap.size + 1, #[.int .i64 y0, .int .i64 y1, .int .i64 y2, .int .i64 y3], 22), (WD.heap.size, roomy a.after 200, 3)]) (M' := [(Bb, #[.int .i64 b.u, .slice Eb b.after.length mb, .int .i64 b.ap, .int .i64 b.den], 26), (w.heap.size, #[.int .i64 x0, .int .i64 x1, .int .i64 x2, .int .i64 x3], 22), (w.heap.size + 1, #[.int .i64 y0, .int .i64 y1, .int .i64 y2, .int .i64 y3], 22), (WD.heap.size, roomy a.after 200, 3)]) (S2.out.sub (fun p hp => hp) (by simp)) (by simp; exact ⟨by omega, fun ad h _ => by have := HEb.out ad h; omega⟩) (by simp; exact ⟨fun e => NB.out e, fun e => NX.out.1 e.symm, fun e => NX.out.2 e.symm, by omega⟩) 1 (.slice (some ⟨WD.heap.size, 0, none⟩) a.after.length 200) rfl) (fun p hp => hp) (by simp)⟩⟩
    · go_simp
      refine hKK_.out _ _ trivial (fun _ => ?_)
      clear hKK_ KK_
      (try simp only [Act.put, List.setIfInBounds_toArray, List.set_cons_zero, List.set_cons_succ])
      refine reg_one 0 (fun KK_ hKK_ => ?_)
      go_simp
      have hgm := heap_alloc_new WD (.cells (madeCells #[.int .i64 0] 200) 3)
      have HB : Below WD.heap.size WD (WD.alloc (.cells (madeCells #[.int .i64 0] 200) 3)) := below_alloc (Below.refl _ _) _
      generalize WD.alloc (.cells (madeCells #[.int .i64 0] 200) 3) = W1 at hgm HB ⊢
      have S1 := Aside0.mk (SS.out.step HB)
      have hc2 := S1.out.cell (b := Ba) (cs := #[.int .i64 a.u, .slice Ea a.after.length ma, .int .i64 a.ap, .int .i64 a.den]) (t := 26) (by simp) 1
      refine hKK_.out _ _ trivial (fun _ => ?_)
      clear hKK_ KK_
      (try simp only [Act.put, List.setIfInBounds_toArray, List.set_cons_zero, List.set_cons_succ])
      refine reg_one 3 (fun KK_ hKK_ => ?_)
      refine wp_append_room (g := WD.heap.size) (c := 200) (xs := a.after) rfl rfl rfl rfl hgm (S1.out.get (A := Ea) (l := a.after) (by simp)) (by omega) ?_
      intro W2 hg2 hk2 hb2
      refine hKK_.out _ _ trivial (fun _ => ?_)
      clear hKK_ KK_
      (try simp only [Act.put, List.setIfInBounds_toArray, List.set_cons_zero, List.set_cons_succ])
      refine reg_tk 4 ?_
      (try simp only [Act.put, List.setIfInBounds_toArray, List.set_cons_zero, List.set_cons_succ])
      have HB2 := hb2 _ _ (Nat.le_refl _) HB
      have S2 := Aside0.mk (((SS.out.step HB2).addBox SS.out.bel.size hg2).add (roomy_C hg2 (by omega) (by omega)))
      have hc3 := S2.out.cell (b := Ba) (cs := #[.int .i64 a.u, .slice Ea a.after.length ma, .int .i64 a.ap, .int .i64 a.den]) (t := 26) (by simp) 1
      have hf3 := frozen_of_heap (S2.out.boxes (Ba, #[.int .i64 a.u, .slice Ea a.after.length ma, .int .i64 a.ap, .int .i64 a.den], 26) (by simp)).2 1
      refine reg_one 5 (fun KK_ hKK_ => ?_)
      go_simp
      refine hKK_.out _ _ trivial (fun _ => ?_)
      clear hKK_ KK_
      refine wpAnyH_done (by kernel_rfl) ?_ _
      have hltG : Ba < WD.heap.size := World.block_lt_of_cell? WD ⟨Ba, 0, none⟩ (SS.out.cell (b := Ba) (cs := #[.int .i64 a.u, .slice Ea a.after.length ma, .int .i64 a.ap, .int .i64 a.den]) (t := 26) (by simp) 0)
      go_wp2_with fail
      go_meet
      case rel =>
        refine ⟨WD.heap.size, rfl, ⟨St.sub (St.put (b := Ba) (t := 26) (cs := #[.int .i64 a.u, .slice Ea a.after.length ma, .int .i64 a.ap, .int .i64 a.den]) (L' := [(some ⟨WD.heap.size, 0, none⟩, a.after), (Eb, b.after)]) (M := [(Bb, #[.int .i64 b.u, .slice Eb b.after.length mb, .int .i64 b.ap, .int .i64 b.den], 26), (w.heap.size, #[.int .i64 x0, .int .i64 x1, .int .i64 x2, .int .i64 x3], 22), (w.heap.size + 1, #[.int .i64 y0, .int .i64 y1, .int .i64 y2, .int .i64 y3], 22), (WD.heap.size, roomy a.after 200, 3)]) (M' := [(Bb, #[.int .i64 b.u, .slice Eb b.after.length mb, .int .i64 b.ap, .int .i64 b.den], 26), (w.heap.size, #[.int .i64 x0, .int .i64 x1, .int .i64 x2, .int .i64 x3], 22), (w.heap.size + 1, #[.int .i64 y0, .int .i64 y1, .int .i64 y2, .int .i64 y3], 22), (WD.heap.size, roomy a.after 200, 3)]) (S2.out.sub (fun p hp => hp) (by simp)) (by simp; exact ⟨by omega, fun ad h _ => by have := HEb.out ad h; omega⟩) (by simp; exact ⟨fun e => NB.out e, fun e => NX.out.1 e.symm, fun e => NX.out.2 e.symm, by omega⟩) 1 (.slice (some ⟨WD.heap.size, 0, none⟩) a.after.length 200) rfl) (fun p hp => hp) (by simp)⟩⟩
  case rest =>
    clear SS NX NB HEb
    obtain ⟨G, rfl, SC⟩ := hcut
    have AP := Aside0.mk SC.out.lts
    have h200 : a.after.length ≤ 200 := by omega
    have hjl := Lab.len_le oj.out
    have ac0 := SC.out.cell (b := Ba) (cs := #[.int .i64 a.u, .slice (some ⟨G, 0, none⟩) a.after.length 200, .int .i64 a.ap, .int .i64 a.den]) (t := 26) (by simp) 0
    have ac1 := SC.out.cell (b := Ba) (cs := #[.int .i64 a.u, .slice (some ⟨G, 0, none⟩) a.after.length 200, .int .i64 a.ap, .int .i64 a.den]) (t := 26) (by simp) 1
    have ac2 := SC.out.cell (b := Ba) (cs := #[.int .i64 a.u, .slice (some ⟨G, 0, none⟩) a.after.length 200, .int .i64 a.ap, .int .i64 a.den]) (t := 26) (by simp) 2
    have ac3 := SC.out.cell (b := Ba) (cs := #[.int .i64 a.u, .slice (some ⟨G, 0, none⟩) a.after.length 200, .int .i64 a.ap, .int .i64 a.den]) (t := 26) (by simp) 3
    have bc0 := SC.out.cell (b := Bb) (cs := #[.int .i64 b.u, .slice Eb b.after.length mb, .int .i64 b.ap, .int .i64 b.den]) (t := 26) (by simp) 0
    have bc1 := SC.out.cell (b := Bb) (cs := #[.int .i64 b.u, .slice Eb b.after.length mb, .int .i64 b.ap, .int .i64 b.den]) (t := 26) (by simp) 1
    have bc2 := SC.out.cell (b := Bb) (cs := #[.int .i64 b.u, .slice Eb b.after.length mb, .int .i64 b.ap, .int .i64 b.den]) (t := 26) (by simp) 2
    have bc3 := SC.out.cell (b := Bb) (cs := #[.int .i64 b.u, .slice Eb b.after.length mb, .int .i64 b.ap, .int .i64 b.den]) (t := 26) (by simp) 3
    go_upto_region 9 with (first | (have G_ := S7; clear G_; go_at_call 24; apply Calls.mono; apply allows_st (w := w) a; exact S7.out; (first | assumption | simp); (first | assumption | simp); (first | assumption | simp); (first | assumption | simp); rintro e W8 ⟨rfl, h1_⟩; have S8 := Aside0.mk h1_; clear h1_; clear ac0 ac1 ac2 ac3 bc0 bc1 bc2 bc3) | (have G_ := S6; clear G_; go_at_call 20; apply Calls.mono; apply leq_st (w := w) a b; apply St.box; exact S6.out; (first | assumption | simp); (first | assumption | simp); (first | assumption | simp); (first | assumption | simp); rintro e W7 ⟨rfl, h1_⟩; (try simp only [World.size_alloc] at h1_); have S7 := Aside0.mk h1_; clear h1_; clear ac0 ac1 ac2 ac3 bc0 bc1 bc2 bc3 an am bn bm; have ac0 := S7.out.cell (b := Ba) (cs := #[.int .i64 a.u, .slice (some ⟨G, 0, none⟩) a.after.length 200, .int .i64 a.ap, .int .i64 a.den]) (t := 26) (by simp) 0; have ac1 := S7.out.cell (b := Ba) (cs := #[.int .i64 a.u, .slice (some ⟨G, 0, none⟩) a.after.length 200, .int .i64 a.ap, .int .i64 a.den]) (t := 26) (by simp) 1; have ac2 := S7.out.cell (b := Ba) (cs := #[.int .i64 a.u, .slice (some ⟨G, 0, none⟩) a.after.length 200, .int .i64 a.ap, .int .i64 a.den]) (t := 26) (by simp) 2; have ac3 := S7.out.cell (b := Ba) (cs := #[.int .i64 a.u, .slice (some ⟨G, 0, none⟩) a.after.length 200, .int .i64 a.ap, .int .i64 a.den]) (t := 26) (by simp) 3; have bc0 := S7.out.cell (b := Bb) (cs := #[.int .i64 b.u, .slice Eb b.after.length mb, .int .i64 b.ap, .int .i64 b.den]) (t := 26) (by simp) 0; have bc1 := S7.out.cell (b := Bb) (cs := #[.int .i64 b.u, .slice Eb b.after.length mb, .int .i64 b.ap, .int .i64 b.den]) (t := 26) (by simp) 1; have bc2 := S7.out.cell (b := Bb) (cs := #[.int .i64 b.u, .slice Eb b.after.length mb, .int .i64 b.ap, .int .i64 b.den]) (t := 26) (by simp) 2; have bc3 := S7.out.cell (b := Bb) (cs := #[.int .i64 b.u, .slice Eb b.after.length mb, .int .i64 b.ap, .int .i64 b.den]) (t := 26) (by simp) 3) | (have G_ := S5; clear G_; go_at_call 22; apply Calls.mono; apply join_st2 (w := w) a b; apply St.box; exact S5.out; (first | assumption | simp); (first | assumption | simp); (first | assumption | simp); (first | assumption | simp); rintro e W6 ⟨Ek, mq, rfl, hmq, h1_, hb_, hC_, hE_⟩; rw [hj] at hmq hC_ ⊢; (try simp only [World.size_alloc] at h1_ hE_); have S6 := Aside0.mk (h1_.add hC_); have HK := Aside0.mk hE_; clear h1_ hb_ hC_ hE_; clear ac0 ac1 ac2 ac3 bc0 bc1 bc2 bc3 an am bn bm; have ac0 := S6.out.cell (b := Ba) (cs := #[.int .i64 a.u, .slice (some ⟨G, 0, none⟩) a.after.length 200, .int .i64 a.ap, .int .i64 a.den]) (t := 26) (by simp) 0; have ac1 := S6.out.cell (b := Ba) (cs := #[.int .i64 a.u, .slice (some ⟨G, 0, none⟩) a.after.length 200, .int .i64 a.ap, .int .i64 a.den]) (t := 26) (by simp) 1; have ac2 := S6.out.cell (b := Ba) (cs := #[.int .i64 a.u, .slice (some ⟨G, 0, none⟩) a.after.length 200, .int .i64 a.ap, .int .i64 a.den]) (t := 26) (by simp) 2; have ac3 := S6.out.cell (b := Ba) (cs := #[.int .i64 a.u, .slice (some ⟨G, 0, none⟩) a.after.length 200, .int .i64 a.ap, .int .i64 a.den]) (t := 26) (by simp) 3; have an := World.new_ne W6 ⟨Ba, 0, none⟩ ac0; have am := fun (o : Obj) (j : Nat) => World.cell?_alloc_lt W6 o ⟨Ba, j, none⟩ (World.block_lt_of_cell? W6 ⟨Ba, 0, none⟩ ac0); have bc0 := S6.out.cell (b := Bb) (cs := #[.int .i64 b.u, .slice Eb b.after.length mb, .int .i64 b.ap, .int .i64 b.den]) (t := 26) (by simp) 0; have bc1 := S6.out.cell (b := Bb) (cs := #[.int .i64 b.u, .slice Eb b.after.length mb, .int .i64 b.ap, .int .i64 b.den]) (t := 26) (by simp) 1; have bc2 := S6.out.cell (b := Bb) (cs := #[.int .i64 b.u, .slice Eb b.after.length mb, .int .i64 b.ap, .int .i64 b.den]) (t := 26) (by simp) 2; have bc3 := S6.out.cell (b := Bb) (cs := #[.int .i64 b.u, .slice Eb b.after.length mb, .int .i64 b.ap, .int .i64 b.den]) (t := 26) (by simp) 3; have bn := World.new_ne W6 ⟨Bb, 0, none⟩ bc0; have bm := fun (o : Obj) (j : Nat) => World.cell?_alloc_lt W6 o ⟨Bb, j, none⟩ (World.block_lt_of_cell? W6 ⟨Bb, 0, none⟩ bc0)) | (have G_ := SC; clear G_; have G_ := AP; clear G_; go_at_call 22; apply Calls.mono; apply join_st3 (w := w) a b; exact SC.out; (first | assumption | simp); (first | assumption | simp); (first | assumption | simp); (first | assumption | simp); rintro e W5 ⟨Ej, mj, X, rfl, hmj, h1_, hX_⟩; rw [hj] at hmj h1_ hX_ ⊢; have S5 := Aside0.mk h1_; have HX := Aside0.mk hX_; clear h1_ hX_; clear ac0 ac1 ac2 ac3 bc0 bc1 bc2 bc3; have ac0 := S5.out.cell (b := Ba) (cs := #[.int .i64 a.u, .slice (some ⟨G, 0, none⟩) a.after.length 200, .int .i64 a.ap, .int .i64 a.den]) (t := 26) (by simp) 0; have ac1 := S5.out.cell (b := Ba) (cs := #[.int .i64 a.u, .slice (some ⟨G, 0, none⟩) a.after.length 200, .int .i64 a.ap, .int .i64 a.den]) (t := 26) (by simp) 1; have ac2 := S5.out.cell (b := Ba) (cs := #[.int .i64 a.u, .slice (some ⟨G, 0, none⟩) a.after.length 200, .int .i64 a.ap, .int .i64 a.den]) (t := 26) (by simp) 2; have ac3 := S5.out.cell (b := Ba) (cs := #[.int .i64 a.u, .slice (some ⟨G, 0, none⟩) a.after.length 200, .int .i64 a.ap, .int .i64 a.den]) (t := 26) (by simp) 3; have an := World.new_ne W5 ⟨Ba, 0, none⟩ ac0; have am := fun (o : Obj) (j : Nat) => World.cell?_alloc_lt W5 o ⟨Ba, j, none⟩ (World.block_lt_of_cell? W5 ⟨Ba, 0, none⟩ ac0); have bc0 := S5.out.cell (b := Bb) (cs := #[.int .i64 b.u, .slice Eb b.after.length mb, .int .i64 b.ap, .int .i64 b.den]) (t := 26) (by simp) 0; have bc1 := S5.out.cell (b := Bb) (cs := #[.int .i64 b.u, .slice Eb b.after.length mb, .int .i64 b.ap, .int .i64 b.den]) (t := 26) (by simp) 1; have bc2 := S5.out.cell (b := Bb) (cs := #[.int .i64 b.u, .slice Eb b.after.length mb, .int .i64 b.ap, .int .i64 b.den]) (t := 26) (by simp) 2; have bc3 := S5.out.cell (b := Bb) (cs := #[.int .i64 b.u, .slice Eb b.after.length mb, .int .i64 b.ap, .int .i64 b.den]) (t := 26) (by simp) 3; have bn := World.new_ne W5 ⟨Bb, 0, none⟩ bc0; have bm := fun (o : Obj) (j : Nat) => World.cell?_alloc_lt W5 o ⟨Bb, j, none⟩ (World.block_lt_of_cell? W5 ⟨Bb, 0, none⟩ bc0)))
    have BK : W5.heap.size < W6.heap.size := S6.out.lts.2 (W5.heap.size, #[.int .i64 j.u, .slice Ej j.after.length mj, .int .i64 j.ap, .int .i64 j.den], 26) (by simp)
    generalize W5.heap.size = Bj at S8 HX HK BK ⊢
    generalize W6.heap.size = Bk at S8 BK ⊢
    clear S5 S6 S7
    have SS : Aside0 (St w [(Ek, j.after), (Ej, j.after), (some ⟨G, 0, none⟩, a.after), (Eb, b.after)] ([(Bk, #[.int .i64 j.u, .slice Ek j.after.length mq, .int .i64 j.ap, .int .i64 j.den], 26), (Bj, #[.int .i64 j.u, .slice Ej j.after.length mj, .int .i64 j.ap, .int .i64 j.den], 26), (Ba, #[.int .i64 a.u, .slice (some ⟨G, 0, none⟩) a.after.length 200, .int .i64 a.ap, .int .i64 a.den], 26), (Bb, #[.int .i64 b.u, .slice Eb b.after.length mb, .int .i64 b.ap, .int .i64 b.den], 26), (w.heap.size, #[.int .i64 x0, .int .i64 x1, .int .i64 x2, .int .i64 x3], 22), (w.heap.size + 1, #[.int .i64 y0, .int .i64 y1, .int .i64 y2, .int .i64 y3], 22), (G, roomy a.after 200, 3)] ++ X) W8.drew) := Aside0.mk (St.drew S8.out)
    clear S8
    have K : Aside0 (∀ (L : List (Option Addr × List Int)) (W : World), St w L ([(Bk, #[.int .i64 j.u, .slice Ek j.after.length mq, .int .i64 j.ap, .int .i64 j.den], 26), (Bj, #[.int .i64 j.u, .slice Ej j.after.length mj, .int .i64 j.ap, .int .i64 j.den], 26), (Ba, #[.int .i64 a.u, .slice (some ⟨G, 0, none⟩) a.after.length 200, .int .i64 a.ap, .int .i64 a.den], 26), (Bb, #[.int .i64 b.u, .slice Eb b.after.length mb, .int .i64 b.ap, .int .i64 b.den], 26), (w.heap.size, #[.int .i64 x0, .int .i64 x1, .int .i64 x2, .int .i64 x3], 22), (w.heap.size + 1, #[.int .i64 y0, .int .i64 y1, .int .i64 y2, .int .i64 y3], 22), (G, roomy a.after 200, 3)] ++ X) W → W.cell? ⟨Ba, 0, none⟩ = some (.int .i64 a.u) ∧ W.cell? ⟨Ba, 1, none⟩ = some (.slice (some ⟨G, 0, none⟩) a.after.length 200) ∧ W.cell? ⟨Ba, 2, none⟩ = some (.int .i64 a.ap) ∧ W.cell? ⟨Ba, 3, none⟩ = some (.int .i64 a.den) ∧ W.cell? ⟨Bb, 0, none⟩ = some (.int .i64 b.u) ∧ W.cell? ⟨Bb, 1, none⟩ = some (.slice Eb b.after.length mb) ∧ W.cell? ⟨Bb, 2, none⟩ = some (.int .i64 b.ap) ∧ W.cell? ⟨Bb, 3, none⟩ = some (.int .i64 b.den) ∧ W.cell? ⟨w.heap.size, 0, none⟩ = some (.int .i64 x0) ∧ W.cell? ⟨w.heap.size, 1, none⟩ = some (.int .i64 x1) ∧ W.cell? ⟨w.heap.size, 2, none⟩ = some (.int .i64 x2) ∧ W.cell? ⟨w.heap.size, 3, none⟩ = some (.int .i64 x3) ∧ W.cell? ⟨w.heap.size + 1, 0, none⟩ = some (.int .i64 y0) ∧ W.cell? ⟨w.heap.size + 1, 1, none⟩ = some (.int .i64 y1) ∧ W.cell? ⟨w.heap.size + 1, 2, none⟩ = some (.int .i64 y2) ∧ W.cell? ⟨w.heap.size + 1, 3, none⟩ = some (.int .i64 y3)) := Aside0.mk (fun L W h => ⟨h.cell (b := Ba) (cs := #[.int .i64 a.u, .slice (some ⟨G, 0, none⟩) a.after.length 200, .int .i64 a.ap, .int .i64 a.den]) (t := 26) (by simp) 0, h.cell (b := Ba) (cs := #[.int .i64 a.u, .slice (some ⟨G, 0, none⟩) a.after.length 200, .int .i64 a.ap, .int .i64 a.den]) (t := 26) (by simp) 1, h.cell (b := Ba) (cs := #[.int .i64 a.u, .slice (some ⟨G, 0, none⟩) a.after.length 200, .int .i64 a.ap, .int .i64 a.den]) (t := 26) (by simp) 2, h.cell (b := Ba) (cs := #[.int .i64 a.u, .slice (some ⟨G, 0, none⟩) a.after.length 200, .int .i64 a.ap, .int .i64 a.den]) (t := 26) (by simp) 3, h.cell (b := Bb) (cs := #[.int .i64 b.u, .slice Eb b.after.length mb, .int .i64 b.ap, .int .i64 b.den]) (t := 26) (by simp) 0, h.cell (b := Bb) (cs := #[.int .i64 b.u, .slice Eb b.after.length mb, .int .i64 b.ap, .int .i64 b.den]) (t := 26) (by simp) 1, h.cell (b := Bb) (cs := #[.int .i64 b.u, .slice Eb b.after.length mb, .int .i64 b.ap, .int .i64 b.den]) (t := 26) (by simp) 2, h.cell (b := Bb) (cs := #[.int .i64 b.u, .slice Eb b.after.length mb, .int .i64 b.ap, .int .i64 b.den]) (t := 26) (by simp) 3, h.cell (b := w.heap.size) (cs := #[.int .i64 x0, .int .i64 x1, .int .i64 x2, .int .i64 x3]) (t := 22) (by simp) 0, h.cell (b := w.heap.size) (cs := #[.int .i64 x0, .int .i64 x1, .int .i64 x2, .int .i64 x3]) (t := 22) (by simp) 1, h.cell (b := w.heap.size) (cs := #[.int .i64 x0, .int .i64 x1, .int .i64 x2, .int .i64 x3]) (t := 22) (by simp) 2, h.cell (b := w.heap.size) (cs := #[.int .i64 x0, .int .i64 x1, .int .i64 x2, .int .i64 x3]) (t := 22) (by simp) 3, h.cell (b := w.heap.size + 1) (cs := #[.int .i64 y0, .int .i64 y1, .int .i64 y2, .int .i64 y3]) (t := 22) (by simp) 0, h.cell (b := w.heap.size + 1) (cs := #[.int .i64 y0, .int .i64 y1, .int .i64 y2, .int .i64 y3]) (t := 22) (by simp) 1, h.cell (b := w.heap.size + 1) (cs := #[.int .i64 y0, .int .i64 y1, .int .i64 y2, .int .i64 y3]) (t := 22) (by simp) 2, h.cell (b := w.heap.size + 1) (cs := #[.int .i64 y0, .int .i64 y1, .int .i64 y2, .int .i64 y3]) (t := 22) (by simp) 3⟩)
    refine wp_region_held_drew (S := (fun W => W.cell? ⟨Ba, 0, none⟩ = some (.int .i64 a.u) ∧ W.cell? ⟨Ba, 1, none⟩ = some (.slice (some ⟨G, 0, none⟩) a.after.length 200) ∧ W.cell? ⟨Ba, 2, none⟩ = some (.int .i64 a.ap) ∧ W.cell? ⟨Ba, 3, none⟩ = some (.int .i64 a.den) ∧ W.cell? ⟨Bb, 0, none⟩ = some (.int .i64 b.u) ∧ W.cell? ⟨Bb, 1, none⟩ = some (.slice Eb b.after.length mb) ∧ W.cell? ⟨Bb, 2, none⟩ = some (.int .i64 b.ap) ∧ W.cell? ⟨Bb, 3, none⟩ = some (.int .i64 b.den) ∧ W.cell? ⟨w.heap.size, 0, none⟩ = some (.int .i64 x0) ∧ W.cell? ⟨w.heap.size, 1, none⟩ = some (.int .i64 x1) ∧ W.cell? ⟨w.heap.size, 2, none⟩ = some (.int .i64 x2) ∧ W.cell? ⟨w.heap.size, 3, none⟩ = some (.int .i64 x3) ∧ W.cell? ⟨w.heap.size + 1, 0, none⟩ = some (.int .i64 y0) ∧ W.cell? ⟨w.heap.size + 1, 1, none⟩ = some (.int .i64 y1) ∧ W.cell? ⟨w.heap.size + 1, 2, none⟩ = some (.int .i64 y2) ∧ W.cell? ⟨w.heap.size + 1, 3, none⟩ = some (.int .i64 y3))) (by kernel_rfl) (by (try dsimp only); (with_reducible exact K.out _ _ SS.out)) (fun hHeld => ?_)
    first | refine reg_tk 0 ?_ | refine reg_sk 0 ?_ | fail
    (try simp only [Act.put, List.setIfInBounds_toArray, List.set_cons_zero, List.set_cons_succ])
    first | refine reg_tk 1 ?_ | refine reg_sk 1 ?_ | fail
    (try simp only [Act.put, List.setIfInBounds_toArray, List.set_cons_zero, List.set_cons_succ])
    first | refine reg_tk 2 ?_ | refine reg_sk 2 ?_ | fail
    (try simp only [Act.put, List.setIfInBounds_toArray, List.set_cons_zero, List.set_cons_succ])
    first | refine reg_tk 3 ?_ | refine reg_sk 3 ?_ | fail
    (try simp only [Act.put, List.setIfInBounds_toArray, List.set_cons_zero, List.set_cons_succ])
    first | refine reg_sk 4 ?_ | (refine reg_one 4 (fun KK_ hKK_ => ?_); go_simp; (go_at_call 14; apply Calls.mono; with_reducible apply make_st (w := w) x0 x1 x2 x3; exact SS.out; (first | assumption | exact List.mem_cons_self .. | exact List.mem_cons_of_mem _ (by assumption) | simp); (first | assumption | exact List.mem_cons_self .. | exact List.mem_cons_of_mem _ (by assumption) | simp); (first | assumption | exact List.mem_cons_self .. | exact List.mem_cons_of_mem _ (by assumption) | simp); rintro e WR ⟨E_, m_, rfl, hm_, h1_⟩; rw [ha] at hm_ h1_ ⊢; have SS := Aside0.mk h1_; clear h1_); refine hKK_.out _ _ (by (try dsimp only); (with_reducible exact K.out _ _ SS.out)) (fun hHeld => ?_); clear hKK_ KK_) | fail
    (try simp only [Act.put, List.setIfInBounds_toArray, List.set_cons_zero, List.set_cons_succ])
    first | refine reg_sk 5 ?_ | (refine reg_one 5 (fun KK_ hKK_ => ?_); go_simp; (go_at_call 18; apply Calls.mono; with_reducible apply same_st (w := w) a a; exact SS.out; (first | assumption | exact List.mem_cons_self .. | exact List.mem_cons_of_mem _ (by assumption) | simp); (first | assumption | exact List.mem_cons_self .. | exact List.mem_cons_of_mem _ (by assumption) | simp); (first | assumption | exact List.mem_cons_self .. | exact List.mem_cons_of_mem _ (by assumption) | simp); (first | assumption | exact List.mem_cons_self .. | exact List.mem_cons_of_mem _ (by assumption) | simp); rintro e WR ⟨rfl, h1_⟩; rw [show decide (a = a) = true from decide_eq_true rfl]; have SS := Aside0.mk h1_; clear h1_); refine hKK_.out _ _ (by (try dsimp only); (with_reducible exact K.out _ _ SS.out)) (fun hHeld => ?_); clear hKK_ KK_) | fail
    (try simp only [Act.put, List.setIfInBounds_toArray, List.set_cons_zero, List.set_cons_succ])
    first | refine reg_tk 6 ?_ | refine reg_sk 6 ?_ | fail
    (try simp only [Act.put, List.setIfInBounds_toArray, List.set_cons_zero, List.set_cons_succ])
    first | refine reg_tk 7 ?_ | refine reg_sk 7 ?_ | fail
    (try simp only [Act.put, List.setIfInBounds_toArray, List.set_cons_zero, List.set_cons_succ])
    first | refine reg_tk 8 ?_ | refine reg_sk 8 ?_ | fail
    (try simp only [Act.put, List.setIfInBounds_toArray, List.set_cons_zero, List.set_cons_succ])
    first | refine reg_tk 9 ?_ | refine reg_sk 9 ?_ | fail
    (try simp only [Act.put, List.setIfInBounds_toArray, List.set_cons_zero, List.set_cons_succ])
    first | refine reg_sk 10 ?_ | (refine reg_one 10 (fun KK_ hKK_ => ?_); go_simp; (go_at_call 14; apply Calls.mono; with_reducible apply make_st (w := w) y0 y1 y2 y3; exact SS.out; (first | assumption | exact List.mem_cons_self .. | exact List.mem_cons_of_mem _ (by assumption) | simp); (first | assumption | exact List.mem_cons_self .. | exact List.mem_cons_of_mem _ (by assumption) | simp); (first | assumption | exact List.mem_cons_self .. | exact List.mem_cons_of_mem _ (by assumption) | simp); rintro e WR ⟨E_, m_, rfl, hm_, h1_⟩; rw [hb] at hm_ h1_ ⊢; have SS := Aside0.mk h1_; clear h1_); refine hKK_.out _ _ (by (try dsimp only); (with_reducible exact K.out _ _ SS.out)) (fun hHeld => ?_); clear hKK_ KK_) | fail
    (try simp only [Act.put, List.setIfInBounds_toArray, List.set_cons_zero, List.set_cons_succ])
    first | refine reg_sk 11 ?_ | (refine reg_one 11 (fun KK_ hKK_ => ?_); go_simp; (go_at_call 18; apply Calls.mono; with_reducible apply same_st (w := w) b b; exact SS.out; (first | assumption | exact List.mem_cons_self .. | exact List.mem_cons_of_mem _ (by assumption) | simp); (first | assumption | exact List.mem_cons_self .. | exact List.mem_cons_of_mem _ (by assumption) | simp); (first | assumption | exact List.mem_cons_self .. | exact List.mem_cons_of_mem _ (by assumption) | simp); (first | assumption | exact List.mem_cons_self .. | exact List.mem_cons_of_mem _ (by assumption) | simp); rintro e WR ⟨rfl, h1_⟩; rw [show decide (b = b) = true from decide_eq_true rfl]; have SS := Aside0.mk h1_; clear h1_); refine hKK_.out _ _ (by (try dsimp only); (with_reducible exact K.out _ _ SS.out)) (fun hHeld => ?_); clear hKK_ KK_) | fail
    (try simp only [Act.put, List.setIfInBounds_toArray, List.set_cons_zero, List.set_cons_succ])
    first | refine reg_tk 12 ?_ | refine reg_sk 12 ?_ | fail
    (try simp only [Act.put, List.setIfInBounds_toArray, List.set_cons_zero, List.set_cons_succ])
    first | refine reg_tk 13 ?_ | refine reg_sk 13 ?_ | fail
    (try simp only [Act.put, List.setIfInBounds_toArray, List.set_cons_zero, List.set_cons_succ])
    refine wpAnyH_done (by kernel_rfl) ?_ _
    have SA := Aside0.mk SS.out.tailRow.tailRow
    clear SS K hHeld
    have ac0 := SA.out.cell (b := Ba) (cs := #[.int .i64 a.u, .slice (some ⟨G, 0, none⟩) a.after.length 200, .int .i64 a.ap, .int .i64 a.den]) (t := 26) (by simp) 0
    have ac1 := SA.out.cell (b := Ba) (cs := #[.int .i64 a.u, .slice (some ⟨G, 0, none⟩) a.after.length 200, .int .i64 a.ap, .int .i64 a.den]) (t := 26) (by simp) 1
    have ac2 := SA.out.cell (b := Ba) (cs := #[.int .i64 a.u, .slice (some ⟨G, 0, none⟩) a.after.length 200, .int .i64 a.ap, .int .i64 a.den]) (t := 26) (by simp) 2
    have ac3 := SA.out.cell (b := Ba) (cs := #[.int .i64 a.u, .slice (some ⟨G, 0, none⟩) a.after.length 200, .int .i64 a.ap, .int .i64 a.den]) (t := 26) (by simp) 3
    go_wp2
    clear ac0 ac1 ac2 ac3
    go_loopg [5, 11] (200 - a.after.length + 1) (fun gk v5 v11 w' => ∃ i : Nat, v5 = .bool true ∧ v11 = .int .i64 i ∧ Aside0 (a.after.length ≤ i ∧ i ≤ 200 ∧ gk = 200 - i + 1 ∧ St w [(Ek, j.after), (Ej, j.after), (some ⟨G, 0, none⟩, a.after), (Eb, b.after)] ([(Bk, #[.int .i64 j.u, .slice Ek j.after.length mq, .int .i64 j.ap, .int .i64 j.den], 26), (Bj, #[.int .i64 j.u, .slice Ej j.after.length mj, .int .i64 j.ap, .int .i64 j.den], 26), (Ba, #[.int .i64 a.u, .slice (some ⟨G, 0, none⟩) a.after.length 200, .int .i64 a.ap, .int .i64 a.den], 26), (Bb, #[.int .i64 b.u, .slice Eb b.after.length mb, .int .i64 b.ap, .int .i64 b.den], 26), (w.heap.size, #[.int .i64 x0, .int .i64 x1, .int .i64 x2, .int .i64 x3], 22), (w.heap.size + 1, #[.int .i64 y0, .int .i64 y1, .int .i64 y2, .int .i64 y3], 22), (G, roomy a.after 200, 3)] ++ X) w'))
    case atStart => exact ⟨a.after.length, rfl, rfl, ⟨⟨by omega, by omega, by omega, SA.out⟩⟩⟩
    case round =>
      clear SA
      obtain ⟨i, rfl, rfl, HI⟩ := hrel
      obtain ⟨hi0, hi1, hg1, SR⟩ := HI.out
      clear HI
      have R1 := Aside0.mk SR
      clear SR
      by_cases hi : i < 200
      · have hd : decide ((i : Int) < 200) = true := decide_eq_true (by omega)
        have hcz : wr.cell? ⟨G, i, none⟩ = some (.int .i64 0) := (R1.out.cell (b := G) (cs := roomy a.after 200) (t := 3) (by simp) i).trans (roomy_at hi0 hi)
        go_wp2
        go_roundg (200 - i)
        case rel => exact ⟨i + 1, rfl, by simp, ⟨⟨by omega, by omega, by omega, R1.out⟩⟩⟩
        case measure => omega
      · obtain rfl : i = 200 := by omega
        go_wp2
        go_loopg [12] (j.after.length + 1) (fun gk v12 w' => ∃ (i : Nat) (X' : List (Nat × Array Value × TypeId)), v12 = .int .i64 i ∧ Aside0 (i ≤ j.after.length ∧ gk = j.after.length - i + 1 ∧ OwnBox wc.heap.size Bj Ej j.after.length X' ∧ St w [(Ek, j.after), (some ⟨G, 0, none⟩, a.after), (Eb, b.after)] ([(Bk, #[.int .i64 j.u, .slice Ek j.after.length mq, .int .i64 j.ap, .int .i64 j.den], 26), (Bj, #[.int .i64 j.u, .slice Ej j.after.length mj, .int .i64 j.ap, .int .i64 j.den], 26), (Ba, #[.int .i64 a.u, .slice (some ⟨G, 0, none⟩) a.after.length 200, .int .i64 a.ap, .int .i64 a.den], 26), (Bb, #[.int .i64 b.u, .slice Eb b.after.length mb, .int .i64 b.ap, .int .i64 b.den], 26), (w.heap.size, #[.int .i64 x0, .int .i64 x1, .int .i64 x2, .int .i64 x3], 22), (w.heap.size + 1, #[.int .i64 y0, .int .i64 y1, .int .i64 y2, .int .i64 y3], 22), (G, roomy a.after 200, 3)] ++ X') w'))
        case atStart => exact ⟨0, X, rfl, ⟨⟨by omega, by omega, HX.out, R1.out.sub (by rintro p hp; rcases List.mem_cons.1 hp with rfl | hp; (exact List.mem_cons_self ..); (exact List.mem_cons_of_mem _ (List.mem_cons_of_mem _ hp))) (fun p hp => hp)⟩⟩⟩
        case round =>
          clear R1 HX
          obtain ⟨i, X, rfl, HI⟩ := hrel
          obtain ⟨hi0, hg1, HX, SR⟩ := HI.out
          clear HI
          have R1 := Aside0.mk SR
          clear SR
          have jc1 := R1.out.cell (b := Bj) (cs := #[.int .i64 j.u, .slice Ej j.after.length mj, .int .i64 j.ap, .int .i64 j.den]) (t := 26) (by simp) 1
          by_cases hi : i < j.after.length
          · have hd : decide ((i : Int) < (j.after.length : Int)) = true := decide_eq_true (by omega)
            rcases HX with ⟨h0, _⟩ | ⟨g, cur, rfl, rfl, hcur, hg0, hgB⟩
            · omega
            have hbx := (R1.out.boxes (g, cur, 3) (by simp)).2
            dsimp only at hbx
            have hcg := cell_of_heap hbx i
            rw [Array.getElem?_eq_getElem (by omega)] at hcg
            have hfg := frozen_of_heap hbx i
            have R2 := Aside0.mk (R1.out.mark (N0 := wc.heap.size) (B := Bj) (by simp; exact ⟨fun ad h _ => .inr (HK.out ad h).1, fun _ => .inl (AP.out.1 (some ⟨G, 0, none⟩, a.after) (by simp) _ rfl (by assumption)), fun ad h hl => .inl (AP.out.1 (Eb, b.after) (by simp) ad h hl)⟩) (by simp; exact ⟨.inr (Nat.le_of_lt BK), .inl (AP.out.2 (Ba, #[.int .i64 a.u, .slice (some ⟨G, 0, none⟩) a.after.length 200, .int .i64 a.ap, .int .i64 a.den], 26) (by simp)), .inl (AP.out.2 (Bb, #[.int .i64 b.u, .slice Eb b.after.length mb, .int .i64 b.ap, .int .i64 b.den], 26) (by simp)), .inl (AP.out.2 (w.heap.size, #[.int .i64 x0, .int .i64 x1, .int .i64 x2, .int .i64 x3], 22) (by simp)), .inl (AP.out.2 (w.heap.size + 1, #[.int .i64 y0, .int .i64 y1, .int .i64 y2, .int .i64 y3], 22) (by simp)), .inl (AP.out.2 (G, roomy a.after 200, 3) (by simp))⟩) hg0 hgB i (.int .i64 99))
            clear hbx
            go_wp2
            go_roundg (j.after.length - i)
            case rel => exact ⟨i + 1, _, by simp <;> (unfold wrap64; omega), ⟨⟨by omega, by omega, .inr ⟨g, _, rfl, rfl, by rw [Array.size_setIfInBounds]; exact hcur, hg0, hgB⟩, R2.out⟩⟩⟩
            case measure => omega
          · obtain rfl : i = j.after.length := by omega
            go_upto_region 19 with fail
            have SS := Aside0.mk (St.drew R1.out)
            clear R1
            have K : Aside0 (∀ (L : List (Option Addr × List Int)) (W : World), St w L ([(Bk, #[.int .i64 j.u, .slice Ek j.after.length mq, .int .i64 j.ap, .int .i64 j.den], 26), (Bj, #[.int .i64 j.u, .slice Ej j.after.length mj, .int .i64 j.ap, .int .i64 j.den], 26), (Ba, #[.int .i64 a.u, .slice (some ⟨G, 0, none⟩) a.after.length 200, .int .i64 a.ap, .int .i64 a.den], 26), (Bb, #[.int .i64 b.u, .slice Eb b.after.length mb, .int .i64 b.ap, .int .i64 b.den], 26), (w.heap.size, #[.int .i64 x0, .int .i64 x1, .int .i64 x2, .int .i64 x3], 22), (w.heap.size + 1, #[.int .i64 y0, .int .i64 y1, .int .i64 y2, .int .i64 y3], 22), (G, roomy a.after 200, 3)] ++ X) W → W.cell? ⟨Bk, 0, none⟩ = some (.int .i64 j.u) ∧ W.cell? ⟨Bk, 1, none⟩ = some (.slice Ek j.after.length mq) ∧ W.cell? ⟨Bk, 2, none⟩ = some (.int .i64 j.ap) ∧ W.cell? ⟨Bk, 3, none⟩ = some (.int .i64 j.den) ∧ W.cell? ⟨Ba, 0, none⟩ = some (.int .i64 a.u) ∧ W.cell? ⟨Ba, 1, none⟩ = some (.slice (some ⟨G, 0, none⟩) a.after.length 200) ∧ W.cell? ⟨Ba, 2, none⟩ = some (.int .i64 a.ap) ∧ W.cell? ⟨Ba, 3, none⟩ = some (.int .i64 a.den) ∧ W.cell? ⟨Bb, 0, none⟩ = some (.int .i64 b.u) ∧ W.cell? ⟨Bb, 1, none⟩ = some (.slice Eb b.after.length mb) ∧ W.cell? ⟨Bb, 2, none⟩ = some (.int .i64 b.ap) ∧ W.cell? ⟨Bb, 3, none⟩ = some (.int .i64 b.den) ∧ W.cell? ⟨w.heap.size, 0, none⟩ = some (.int .i64 x0) ∧ W.cell? ⟨w.heap.size, 1, none⟩ = some (.int .i64 x1) ∧ W.cell? ⟨w.heap.size, 2, none⟩ = some (.int .i64 x2) ∧ W.cell? ⟨w.heap.size, 3, none⟩ = some (.int .i64 x3) ∧ W.cell? ⟨w.heap.size + 1, 0, none⟩ = some (.int .i64 y0) ∧ W.cell? ⟨w.heap.size + 1, 1, none⟩ = some (.int .i64 y1) ∧ W.cell? ⟨w.heap.size + 1, 2, none⟩ = some (.int .i64 y2) ∧ W.cell? ⟨w.heap.size + 1, 3, none⟩ = some (.int .i64 y3)) := Aside0.mk (fun L W h => ⟨h.cell (b := Bk) (cs := #[.int .i64 j.u, .slice Ek j.after.length mq, .int .i64 j.ap, .int .i64 j.den]) (t := 26) (by simp) 0, h.cell (b := Bk) (cs := #[.int .i64 j.u, .slice Ek j.after.length mq, .int .i64 j.ap, .int .i64 j.den]) (t := 26) (by simp) 1, h.cell (b := Bk) (cs := #[.int .i64 j.u, .slice Ek j.after.length mq, .int .i64 j.ap, .int .i64 j.den]) (t := 26) (by simp) 2, h.cell (b := Bk) (cs := #[.int .i64 j.u, .slice Ek j.after.length mq, .int .i64 j.ap, .int .i64 j.den]) (t := 26) (by simp) 3, h.cell (b := Ba) (cs := #[.int .i64 a.u, .slice (some ⟨G, 0, none⟩) a.after.length 200, .int .i64 a.ap, .int .i64 a.den]) (t := 26) (by simp) 0, h.cell (b := Ba) (cs := #[.int .i64 a.u, .slice (some ⟨G, 0, none⟩) a.after.length 200, .int .i64 a.ap, .int .i64 a.den]) (t := 26) (by simp) 1, h.cell (b := Ba) (cs := #[.int .i64 a.u, .slice (some ⟨G, 0, none⟩) a.after.length 200, .int .i64 a.ap, .int .i64 a.den]) (t := 26) (by simp) 2, h.cell (b := Ba) (cs := #[.int .i64 a.u, .slice (some ⟨G, 0, none⟩) a.after.length 200, .int .i64 a.ap, .int .i64 a.den]) (t := 26) (by simp) 3, h.cell (b := Bb) (cs := #[.int .i64 b.u, .slice Eb b.after.length mb, .int .i64 b.ap, .int .i64 b.den]) (t := 26) (by simp) 0, h.cell (b := Bb) (cs := #[.int .i64 b.u, .slice Eb b.after.length mb, .int .i64 b.ap, .int .i64 b.den]) (t := 26) (by simp) 1, h.cell (b := Bb) (cs := #[.int .i64 b.u, .slice Eb b.after.length mb, .int .i64 b.ap, .int .i64 b.den]) (t := 26) (by simp) 2, h.cell (b := Bb) (cs := #[.int .i64 b.u, .slice Eb b.after.length mb, .int .i64 b.ap, .int .i64 b.den]) (t := 26) (by simp) 3, h.cell (b := w.heap.size) (cs := #[.int .i64 x0, .int .i64 x1, .int .i64 x2, .int .i64 x3]) (t := 22) (by simp) 0, h.cell (b := w.heap.size) (cs := #[.int .i64 x0, .int .i64 x1, .int .i64 x2, .int .i64 x3]) (t := 22) (by simp) 1, h.cell (b := w.heap.size) (cs := #[.int .i64 x0, .int .i64 x1, .int .i64 x2, .int .i64 x3]) (t := 22) (by simp) 2, h.cell (b := w.heap.size) (cs := #[.int .i64 x0, .int .i64 x1, .int .i64 x2, .int .i64 x3]) (t := 22) (by simp) 3, h.cell (b := w.heap.size + 1) (cs := #[.int .i64 y0, .int .i64 y1, .int .i64 y2, .int .i64 y3]) (t := 22) (by simp) 0, h.cell (b := w.heap.size + 1) (cs := #[.int .i64 y0, .int .i64 y1, .int .i64 y2, .int .i64 y3]) (t := 22) (by simp) 1, h.cell (b := w.heap.size + 1) (cs := #[.int .i64 y0, .int .i64 y1, .int .i64 y2, .int .i64 y3]) (t := 22) (by simp) 2, h.cell (b := w.heap.size + 1) (cs := #[.int .i64 y0, .int .i64 y1, .int .i64 y2, .int .i64 y3]) (t := 22) (by simp) 3⟩)
            refine wp_region_held_drew (S := (fun W => W.cell? ⟨Bk, 0, none⟩ = some (.int .i64 j.u) ∧ W.cell? ⟨Bk, 1, none⟩ = some (.slice Ek j.after.length mq) ∧ W.cell? ⟨Bk, 2, none⟩ = some (.int .i64 j.ap) ∧ W.cell? ⟨Bk, 3, none⟩ = some (.int .i64 j.den) ∧ W.cell? ⟨Ba, 0, none⟩ = some (.int .i64 a.u) ∧ W.cell? ⟨Ba, 1, none⟩ = some (.slice (some ⟨G, 0, none⟩) a.after.length 200) ∧ W.cell? ⟨Ba, 2, none⟩ = some (.int .i64 a.ap) ∧ W.cell? ⟨Ba, 3, none⟩ = some (.int .i64 a.den) ∧ W.cell? ⟨Bb, 0, none⟩ = some (.int .i64 b.u) ∧ W.cell? ⟨Bb, 1, none⟩ = some (.slice Eb b.after.length mb) ∧ W.cell? ⟨Bb, 2, none⟩ = some (.int .i64 b.ap) ∧ W.cell? ⟨Bb, 3, none⟩ = some (.int .i64 b.den) ∧ W.cell? ⟨w.heap.size, 0, none⟩ = some (.int .i64 x0) ∧ W.cell? ⟨w.heap.size, 1, none⟩ = some (.int .i64 x1) ∧ W.cell? ⟨w.heap.size, 2, none⟩ = some (.int .i64 x2) ∧ W.cell? ⟨w.heap.size, 3, none⟩ = some (.int .i64 x3) ∧ W.cell? ⟨w.heap.size + 1, 0, none⟩ = some (.int .i64 y0) ∧ W.cell? ⟨w.heap.size + 1, 1, none⟩ = some (.int .i64 y1) ∧ W.cell? ⟨w.heap.size + 1, 2, none⟩ = some (.int .i64 y2) ∧ W.cell? ⟨w.heap.size + 1, 3, none⟩ = some (.int .i64 y3))) (by kernel_rfl) (by (try dsimp only); (with_reducible exact K.out _ _ SS.out)) (fun hHeld => ?_)
            first | refine reg_tk 0 ?_ | refine reg_sk 0 ?_ | fail
            (try simp only [Act.put, List.setIfInBounds_toArray, List.set_cons_zero, List.set_cons_succ])
            first | refine reg_tk 1 ?_ | refine reg_sk 1 ?_ | fail
            (try simp only [Act.put, List.setIfInBounds_toArray, List.set_cons_zero, List.set_cons_succ])
            first | refine reg_tk 2 ?_ | refine reg_sk 2 ?_ | fail
            (try simp only [Act.put, List.setIfInBounds_toArray, List.set_cons_zero, List.set_cons_succ])
            first | refine reg_tk 3 ?_ | refine reg_sk 3 ?_ | fail
            (try simp only [Act.put, List.setIfInBounds_toArray, List.set_cons_zero, List.set_cons_succ])
            first | refine reg_sk 4 ?_ | (refine reg_one 4 (fun KK_ hKK_ => ?_); go_simp; (go_at_call 14; apply Calls.mono; with_reducible apply make_st (w := w) x0 x1 x2 x3; exact SS.out; (first | assumption | exact List.mem_cons_self .. | exact List.mem_cons_of_mem _ (by assumption) | simp); (first | assumption | exact List.mem_cons_self .. | exact List.mem_cons_of_mem _ (by assumption) | simp); (first | assumption | exact List.mem_cons_self .. | exact List.mem_cons_of_mem _ (by assumption) | simp); rintro e WR ⟨E_, m_, rfl, hm_, h1_⟩; rw [ha] at hm_ h1_ ⊢; have SS := Aside0.mk h1_; clear h1_); refine hKK_.out _ _ (by (try dsimp only); (with_reducible exact K.out _ _ SS.out)) (fun hHeld => ?_); clear hKK_ KK_) | fail
            (try simp only [Act.put, List.setIfInBounds_toArray, List.set_cons_zero, List.set_cons_succ])
            first | refine reg_sk 5 ?_ | (refine reg_one 5 (fun KK_ hKK_ => ?_); go_simp; (go_at_call 18; apply Calls.mono; with_reducible apply same_st (w := w) a a; exact SS.out; (first | assumption | exact List.mem_cons_self .. | exact List.mem_cons_of_mem _ (by assumption) | simp); (first | assumption | exact List.mem_cons_self .. | exact List.mem_cons_of_mem _ (by assumption) | simp); (first | assumption | exact List.mem_cons_self .. | exact List.mem_cons_of_mem _ (by assumption) | simp); (first | assumption | exact List.mem_cons_self .. | exact List.mem_cons_of_mem _ (by assumption) | simp); rintro e WR ⟨rfl, h1_⟩; rw [show decide (a = a) = true from decide_eq_true rfl]; have SS := Aside0.mk h1_; clear h1_); refine hKK_.out _ _ (by (try dsimp only); (with_reducible exact K.out _ _ SS.out)) (fun hHeld => ?_); clear hKK_ KK_) | fail
            (try simp only [Act.put, List.setIfInBounds_toArray, List.set_cons_zero, List.set_cons_succ])
            first | refine reg_tk 6 ?_ | refine reg_sk 6 ?_ | fail
            (try simp only [Act.put, List.setIfInBounds_toArray, List.set_cons_zero, List.set_cons_succ])
            first | refine reg_tk 7 ?_ | refine reg_sk 7 ?_ | fail
            (try simp only [Act.put, List.setIfInBounds_toArray, List.set_cons_zero, List.set_cons_succ])
            first | refine reg_tk 8 ?_ | refine reg_sk 8 ?_ | fail
            (try simp only [Act.put, List.setIfInBounds_toArray, List.set_cons_zero, List.set_cons_succ])
            first | refine reg_tk 9 ?_ | refine reg_sk 9 ?_ | fail
            (try simp only [Act.put, List.setIfInBounds_toArray, List.set_cons_zero, List.set_cons_succ])
            first | refine reg_sk 10 ?_ | (refine reg_one 10 (fun KK_ hKK_ => ?_); go_simp; (go_at_call 14; apply Calls.mono; with_reducible apply make_st (w := w) y0 y1 y2 y3; exact SS.out; (first | assumption | exact List.mem_cons_self .. | exact List.mem_cons_of_mem _ (by assumption) | simp); (first | assumption | exact List.mem_cons_self .. | exact List.mem_cons_of_mem _ (by assumption) | simp); (first | assumption | exact List.mem_cons_self .. | exact List.mem_cons_of_mem _ (by assumption) | simp); rintro e WR ⟨E_, m_, rfl, hm_, h1_⟩; rw [hb] at hm_ h1_ ⊢; have SS := Aside0.mk h1_; clear h1_); refine hKK_.out _ _ (by (try dsimp only); (with_reducible exact K.out _ _ SS.out)) (fun hHeld => ?_); clear hKK_ KK_) | fail
            (try simp only [Act.put, List.setIfInBounds_toArray, List.set_cons_zero, List.set_cons_succ])
            first | refine reg_sk 11 ?_ | (refine reg_one 11 (fun KK_ hKK_ => ?_); go_simp; (go_at_call 18; apply Calls.mono; with_reducible apply same_st (w := w) b b; exact SS.out; (first | assumption | exact List.mem_cons_self .. | exact List.mem_cons_of_mem _ (by assumption) | simp); (first | assumption | exact List.mem_cons_self .. | exact List.mem_cons_of_mem _ (by assumption) | simp); (first | assumption | exact List.mem_cons_self .. | exact List.mem_cons_of_mem _ (by assumption) | simp); (first | assumption | exact List.mem_cons_self .. | exact List.mem_cons_of_mem _ (by assumption) | simp); rintro e WR ⟨rfl, h1_⟩; rw [show decide (b = b) = true from decide_eq_true rfl]; have SS := Aside0.mk h1_; clear h1_); refine hKK_.out _ _ (by (try dsimp only); (with_reducible exact K.out _ _ SS.out)) (fun hHeld => ?_); clear hKK_ KK_) | fail
            (try simp only [Act.put, List.setIfInBounds_toArray, List.set_cons_zero, List.set_cons_succ])
            first | refine reg_tk 12 ?_ | refine reg_sk 12 ?_ | fail
            (try simp only [Act.put, List.setIfInBounds_toArray, List.set_cons_zero, List.set_cons_succ])
            first | refine reg_tk 13 ?_ | refine reg_sk 13 ?_ | fail
            (try simp only [Act.put, List.setIfInBounds_toArray, List.set_cons_zero, List.set_cons_succ])
            first | refine reg_tk 14 ?_ | refine reg_sk 14 ?_ | fail
            (try simp only [Act.put, List.setIfInBounds_toArray, List.set_cons_zero, List.set_cons_succ])
            first | refine reg_tk 15 ?_ | refine reg_sk 15 ?_ | fail
            (try simp only [Act.put, List.setIfInBounds_toArray, List.set_cons_zero, List.set_cons_succ])
            first | refine reg_tk 16 ?_ | refine reg_sk 16 ?_ | fail
            (try simp only [Act.put, List.setIfInBounds_toArray, List.set_cons_zero, List.set_cons_succ])
            first | refine reg_sk 17 ?_ | (refine reg_one 17 (fun KK_ hKK_ => ?_); go_simp; (go_at_call 22; apply Calls.mono; with_reducible apply join_st (w := w) a b; exact SS.out; (first | assumption | exact List.mem_cons_self .. | exact List.mem_cons_of_mem _ (by assumption) | simp); (first | assumption | exact List.mem_cons_self .. | exact List.mem_cons_of_mem _ (by assumption) | simp); (first | assumption | exact List.mem_cons_self .. | exact List.mem_cons_of_mem _ (by assumption) | simp); (first | assumption | exact List.mem_cons_self .. | exact List.mem_cons_of_mem _ (by assumption) | simp); rintro e WR ⟨E_, m_, rfl, hm_, h1_⟩; rw [hj] at hm_ h1_ ⊢; have SS := Aside0.mk h1_; clear h1_); refine hKK_.out _ _ (by (try dsimp only); (with_reducible exact K.out _ _ SS.out)) (fun hHeld => ?_); clear hKK_ KK_) | fail
            (try simp only [Act.put, List.setIfInBounds_toArray, List.set_cons_zero, List.set_cons_succ])
            first | refine reg_sk 18 ?_ | (refine reg_one 18 (fun KK_ hKK_ => ?_); go_simp; (go_at_call 18; apply Calls.mono; with_reducible apply same_st (w := w) j j; exact SS.out; (first | assumption | exact List.mem_cons_self .. | exact List.mem_cons_of_mem _ (by assumption) | simp); (first | assumption | exact List.mem_cons_self .. | exact List.mem_cons_of_mem _ (by assumption) | simp); (first | assumption | exact List.mem_cons_self .. | exact List.mem_cons_of_mem _ (by assumption) | simp); (first | assumption | exact List.mem_cons_self .. | exact List.mem_cons_of_mem _ (by assumption) | simp); rintro e WR ⟨rfl, h1_⟩; rw [show decide (j = j) = true from decide_eq_true rfl]; have SS := Aside0.mk h1_; clear h1_); refine hKK_.out _ _ (by (try dsimp only); (with_reducible exact K.out _ _ SS.out)) (fun hHeld => ?_); clear hKK_ KK_) | fail
            (try simp only [Act.put, List.setIfInBounds_toArray, List.set_cons_zero, List.set_cons_succ])
            first | refine reg_tk 19 ?_ | refine reg_sk 19 ?_ | fail
            (try simp only [Act.put, List.setIfInBounds_toArray, List.set_cons_zero, List.set_cons_succ])
            first | refine reg_tk 20 ?_ | refine reg_sk 20 ?_ | fail
            (try simp only [Act.put, List.setIfInBounds_toArray, List.set_cons_zero, List.set_cons_succ])
            refine wpAnyH_done (by kernel_rfl) ?_ _
            go_wp2
            go_ret
            exact ⟨rfl, SS.out.bel⟩
end Go.Proofs.Ytngckofkbkhomaa
