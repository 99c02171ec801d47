/- The walk of the law LabelMonotone: it tells true. -/
import Derived.Test.YtngckofkbkhomaaHLabSane
import Derived.Deep.RegionHeld3
import Derived.Test.YtngckofkbkhomaaHLabMono
import Derived.Deep.DeepCutAuto
import Derived.Test.YtngckofkbkhomaaHLabTab2
namespace Go.Proofs.Ytngckofkbkhomaa
open Go.RowKit Go.Lib Go.Proofs.Ytngckofkbkhomaa.PBase Go.Proofs.YtngckofkbkhomaaW.PrintWords Go.Proofs.YtngckofkbkhomaaW.PrintLast Go.Proofs.YtngckofkbkhomaaW.PrintMore
set_option linter.unusedVariables false
set_option linter.unusedSimpArgs false
set_option maxHeartbeats 64000000 in
set_option maxRecDepth 100000 in
theorem labelmonotone_calls (w : World) (x0 x1 x2 x3 y0 y1 y2 y3 z0 z1 z2 z3 : Int) (hx : Rng x0 ∧ Rng x2 ∧ Rng x3) (hy : Rng y0 ∧ Rng y2 ∧ Rng y3) (hz : Rng z0 ∧ Rng z2 ∧ Rng z3) :
    Calls Try.prog 9 #[.agg #[.int .i64 x0, .int .i64 x1, .int .i64 x2, .int .i64 x3], .agg #[.int .i64 y0, .int .i64 y1, .int .i64 y2, .int .i64 y3], .agg #[.int .i64 z0, .int .i64 z1, .int .i64 z2, .int .i64 z3]] w fun e w' => e = .returned (.bool true) ∧ Below w.heap.size w w' := by
  have hu := Try.underlying26
  have hu2 := Try.underlying22
  obtain ⟨hx0, hx2, hx3⟩ := hx
  obtain ⟨hy0, hy2, hy3⟩ := hy
  obtain ⟨hz0, hz2, hz3⟩ := hz
  have S0 := Aside0.mk (St.start w)
  obtain ⟨a, ha⟩ : ∃ a, mk x0 x1 x2 x3 = a := ⟨_, rfl⟩
  have oa := Aside0.mk (ha ▸ mk_ok x0 x1 x2 x3 : Lab.Ok a)
  obtain ⟨b, hb⟩ : ∃ b, mk y0 y1 y2 y3 = b := ⟨_, rfl⟩
  have ob := Aside0.mk (hb ▸ mk_ok y0 y1 y2 y3 : Lab.Ok b)
  obtain ⟨j, hj⟩ : ∃ j, Lab.join a b = j := ⟨_, rfl⟩
  have oj := Aside0.mk (hj ▸ Lab.ok_join oa.out ob.out : Lab.Ok j)
  go_enter Try.func9, Try.ntmps9
  go_upto_region 3 with (first | (have G_ := S1; clear G_; go_at_call 14; apply Calls.mono; apply make_st (w := w) x0 x1 x2 x3; exact S1.out; (first | assumption | simp); (first | assumption | simp); (first | assumption | simp); rintro e WS2 ⟨Ea, ma, rfl, hma, h1_⟩; rw [ha] at hma h1_ ⊢; (try simp only [World.size_alloc] at h1_); have S2 := Aside0.mk h1_; clear h1_; clear xc0 xc1 xc2 xc3 yc0 yc1 yc2 yc3 zc0 zc1 zc2 zc3 xn xm yn ym zn zm; have xc0 := S2.out.cell (b := w.heap.size) (cs := #[.int .i64 x0, .int .i64 x1, .int .i64 x2, .int .i64 x3]) (t := 22) (by simp) 0; have xc1 := S2.out.cell (b := w.heap.size) (cs := #[.int .i64 x0, .int .i64 x1, .int .i64 x2, .int .i64 x3]) (t := 22) (by simp) 1; have xc2 := S2.out.cell (b := w.heap.size) (cs := #[.int .i64 x0, .int .i64 x1, .int .i64 x2, .int .i64 x3]) (t := 22) (by simp) 2; have xc3 := S2.out.cell (b := w.heap.size) (cs := #[.int .i64 x0, .int .i64 x1, .int .i64 x2, .int .i64 x3]) (t := 22) (by simp) 3; have xn := World.new_ne WS2 ⟨w.heap.size, 0, none⟩ xc0; have xm := fun (o : Obj) (j : Nat) => World.cell?_alloc_lt WS2 o ⟨w.heap.size, j, none⟩ (World.block_lt_of_cell? WS2 ⟨w.heap.size, 0, none⟩ xc0); have yc0 := S2.out.cell (b := w.heap.size + 1) (cs := #[.int .i64 y0, .int .i64 y1, .int .i64 y2, .int .i64 y3]) (t := 22) (by simp) 0; have yc1 := S2.out.cell (b := w.heap.size + 1) (cs := #[.int .i64 y0, .int .i64 y1, .int .i64 y2, .int .i64 y3]) (t := 22) (by simp) 1; have yc2 := S2.out.cell (b := w.heap.size + 1) (cs := #[.int .i64 y0, .int .i64 y1, .int .i64 y2, .int .i64 y3]) (t := 22) (by simp) 2; have yc3 := S2.out.cell (b := w.heap.size + 1) (cs := #[.int .i64 y0, .int .i64 y1, .int .i64 y2, .int .i64 y3]) (t := 22) (by simp) 3; have yn := World.new_ne WS2 ⟨w.heap.size + 1, 0, none⟩ yc0; have ym := fun (o : Obj) (j : Nat) => World.cell?_alloc_lt WS2 o ⟨w.heap.size + 1, j, none⟩ (World.block_lt_of_cell? WS2 ⟨w.heap.size + 1, 0, none⟩ yc0); have zc0 := S2.out.cell (b := w.heap.size + 1 + 1) (cs := #[.int .i64 z0, .int .i64 z1, .int .i64 z2, .int .i64 z3]) (t := 22) (by simp) 0; have zc1 := S2.out.cell (b := w.heap.size + 1 + 1) (cs := #[.int .i64 z0, .int .i64 z1, .int .i64 z2, .int .i64 z3]) (t := 22) (by simp) 1; have zc2 := S2.out.cell (b := w.heap.size + 1 + 1) (cs := #[.int .i64 z0, .int .i64 z1, .int .i64 z2, .int .i64 z3]) (t := 22) (by simp) 2; have zc3 := S2.out.cell (b := w.heap.size + 1 + 1) (cs := #[.int .i64 z0, .int .i64 z1, .int .i64 z2, .int .i64 z3]) (t := 22) (by simp) 3; have zn := World.new_ne WS2 ⟨w.heap.size + 1 + 1, 0, none⟩ zc0; have zm := fun (o : Obj) (j : Nat) => World.cell?_alloc_lt WS2 o ⟨w.heap.size + 1 + 1, j, none⟩ (World.block_lt_of_cell? WS2 ⟨w.heap.size + 1 + 1, 0, none⟩ zc0)) | (have G_ := S0; clear G_; go_at_call 13; apply Calls.mono; apply sane_st (w := w); apply St.box; apply St.box; apply St.box; exact S0.out; rintro e WS1 ⟨rfl, h1_⟩; (try simp only [World.size_alloc] at h1_); have S1 := Aside0.mk h1_; clear h1_; have xc0 := S1.out.cell (b := w.heap.size) (cs := #[.int .i64 x0, .int .i64 x1, .int .i64 x2, .int .i64 x3]) (t := 22) (by simp) 0; have xc1 := S1.out.cell (b := w.heap.size) (cs := #[.int .i64 x0, .int .i64 x1, .int .i64 x2, .int .i64 x3]) (t := 22) (by simp) 1; have xc2 := S1.out.cell (b := w.heap.size) (cs := #[.int .i64 x0, .int .i64 x1, .int .i64 x2, .int .i64 x3]) (t := 22) (by simp) 2; have xc3 := S1.out.cell (b := w.heap.size) (cs := #[.int .i64 x0, .int .i64 x1, .int .i64 x2, .int .i64 x3]) (t := 22) (by simp) 3; have xn := World.new_ne WS1 ⟨w.heap.size, 0, none⟩ xc0; have xm := fun (o : Obj) (j : Nat) => World.cell?_alloc_lt WS1 o ⟨w.heap.size, j, none⟩ (World.block_lt_of_cell? WS1 ⟨w.heap.size, 0, none⟩ xc0); have yc0 := S1.out.cell (b := w.heap.size + 1) (cs := #[.int .i64 y0, .int .i64 y1, .int .i64 y2, .int .i64 y3]) (t := 22) (by simp) 0; have yc1 := S1.out.cell (b := w.heap.size + 1) (cs := #[.int .i64 y0, .int .i64 y1, .int .i64 y2, .int .i64 y3]) (t := 22) (by simp) 1; have yc2 := S1.out.cell (b := w.heap.size + 1) (cs := #[.int .i64 y0, .int .i64 y1, .int .i64 y2, .int .i64 y3]) (t := 22) (by simp) 2; have yc3 := S1.out.cell (b := w.heap.size + 1) (cs := #[.int .i64 y0, .int .i64 y1, .int .i64 y2, .int .i64 y3]) (t := 22) (by simp) 3; have yn := World.new_ne WS1 ⟨w.heap.size + 1, 0, none⟩ yc0; have ym := fun (o : Obj) (j : Nat) => World.cell?_alloc_lt WS1 o ⟨w.heap.size + 1, j, none⟩ (World.block_lt_of_cell? WS1 ⟨w.heap.size + 1, 0, none⟩ yc0); have zc0 := S1.out.cell (b := w.heap.size + 1 + 1) (cs := #[.int .i64 z0, .int .i64 z1, .int .i64 z2, .int .i64 z3]) (t := 22) (by simp) 0; have zc1 := S1.out.cell (b := w.heap.size + 1 + 1) (cs := #[.int .i64 z0, .int .i64 z1, .int .i64 z2, .int .i64 z3]) (t := 22) (by simp) 1; have zc2 := S1.out.cell (b := w.heap.size + 1 + 1) (cs := #[.int .i64 z0, .int .i64 z1, .int .i64 z2, .int .i64 z3]) (t := 22) (by simp) 2; have zc3 := S1.out.cell (b := w.heap.size + 1 + 1) (cs := #[.int .i64 z0, .int .i64 z1, .int .i64 z2, .int .i64 z3]) (t := 22) (by simp) 3; have zn := World.new_ne WS1 ⟨w.heap.size + 1 + 1, 0, none⟩ zc0; have zm := fun (o : Obj) (j : Nat) => World.cell?_alloc_lt WS1 o ⟨w.heap.size + 1 + 1, j, none⟩ (World.block_lt_of_cell? WS1 ⟨w.heap.size + 1 + 1, 0, none⟩ zc0)))
  have SB := St.box S2.out #[.int .i64 a.u, .slice Ea a.after.length ma, .int .i64 a.ap, .int .i64 a.den] 26
  generalize WS2.alloc (.cells #[.int .i64 a.u, .slice Ea a.after.length ma, .int .i64 a.ap, .int .i64 a.den] 26) = W0 at SB ⊢
  generalize WS2.heap.size = Ba at SB ⊢
  clear S0 S1 S2
  clear xc0 xc1 xc2 xc3 yc0 yc1 yc2 yc3 zc0 zc1 zc2 zc3 xn xm yn ym zn zm
  have SW0 := Aside0.mk SB
  have SS := Aside0.mk (St.drew SB)
  have S00 := SS
  clear SB
  go_cut [9] from 19 (fun v9 w' => ∃ (B : Nat) (Ej : Option Addr) (mj : Nat), v9 = .pointer (some ⟨B, 0, none⟩) ∧ j.after.length ≤ mj ∧ Aside0 (St w [(Ej, j.after), (Ea, a.after)] [(B, #[.int .i64 j.u, .slice Ej j.after.length mj, .int .i64 j.ap, .int .i64 j.den], 26), (Ba, #[.int .i64 a.u, .slice Ea a.after.length ma, .int .i64 a.ap, .int .i64 a.den], 26), (w.heap.size + 1 + 1, #[.int .i64 z0, .int .i64 z1, .int .i64 z2, .int .i64 z3], 22)] w'))
  case first =>
    have K : Aside0 (∀ (L : List (Option Addr × List Int)) (M : List (Nat × Array Value × TypeId)) (W : World), (∀ p ∈ [(Ba, #[.int .i64 a.u, .slice Ea a.after.length ma, .int .i64 a.ap, .int .i64 a.den], 26), (w.heap.size + 1 + 1, #[.int .i64 z0, .int .i64 z1, .int .i64 z2, .int .i64 z3], 22), (w.heap.size + 1, #[.int .i64 y0, .int .i64 y1, .int .i64 y2, .int .i64 y3], 22), (w.heap.size, #[.int .i64 x0, .int .i64 x1, .int .i64 x2, .int .i64 x3], 22)], p ∈ M) → St w L M W → W.cell? ⟨Ba, 0, none⟩ = some (.int .i64 a.u) ∧ W.cell? ⟨Ba, 1, none⟩ = some (.slice Ea a.after.length ma) ∧ W.cell? ⟨Ba, 2, none⟩ = some (.int .i64 a.ap) ∧ W.cell? ⟨Ba, 3, none⟩ = some (.int .i64 a.den) ∧ W.cell? ⟨w.heap.size + 1, 0, none⟩ = some (.int .i64 y0) ∧ W.cell? ⟨w.heap.size + 1, 1, none⟩ = some (.int .i64 y1) ∧ W.cell? ⟨w.heap.size + 1, 2, none⟩ = some (.int .i64 y2) ∧ W.cell? ⟨w.heap.size + 1, 3, none⟩ = some (.int .i64 y3)) := Aside0.mk (fun L M W hs h => ⟨h.cell (b := Ba) (cs := #[.int .i64 a.u, .slice Ea a.after.length ma, .int .i64 a.ap, .int .i64 a.den]) (t := 26) (hs _ (by simp)) 0, h.cell (b := Ba) (cs := #[.int .i64 a.u, .slice Ea a.after.length ma, .int .i64 a.ap, .int .i64 a.den]) (t := 26) (hs _ (by simp)) 1, h.cell (b := Ba) (cs := #[.int .i64 a.u, .slice Ea a.after.length ma, .int .i64 a.ap, .int .i64 a.den]) (t := 26) (hs _ (by simp)) 2, h.cell (b := Ba) (cs := #[.int .i64 a.u, .slice Ea a.after.length ma, .int .i64 a.ap, .int .i64 a.den]) (t := 26) (hs _ (by simp)) 3, h.cell (b := w.heap.size + 1) (cs := #[.int .i64 y0, .int .i64 y1, .int .i64 y2, .int .i64 y3]) (t := 22) (hs _ (by simp)) 0, h.cell (b := w.heap.size + 1) (cs := #[.int .i64 y0, .int .i64 y1, .int .i64 y2, .int .i64 y3]) (t := 22) (hs _ (by simp)) 1, h.cell (b := w.heap.size + 1) (cs := #[.int .i64 y0, .int .i64 y1, .int .i64 y2, .int .i64 y3]) (t := 22) (hs _ (by simp)) 2, h.cell (b := w.heap.size + 1) (cs := #[.int .i64 y0, .int .i64 y1, .int .i64 y2, .int .i64 y3]) (t := 22) (hs _ (by simp)) 3⟩)
    have KZ : Aside0 (∀ (L : List (Option Addr × List Int)) (M : List (Nat × Array Value × TypeId)) (W : World), (w.heap.size + 1 + 1, #[.int .i64 z0, .int .i64 z1, .int .i64 z2, .int .i64 z3], 22) ∈ M → St w L M W → W.cell? ⟨w.heap.size + 1 + 1, 0, none⟩ = some (.int .i64 z0)) := Aside0.mk (fun L M W hs h => h.cell hs 0)
    have hk0 := K.out _ _ _ (fun p hp => hp) S00.out
    have nA0 : W0.heap.size ≠ Ba := World.new_ne W0.drew ⟨Ba, 0, none⟩ hk0.1
    have nY0 : W0.heap.size ≠ w.heap.size + 1 := World.new_ne W0.drew ⟨w.heap.size + 1, 0, none⟩ hk0.2.2.2.2.1
    have nZ0 : W0.heap.size ≠ w.heap.size + 1 + 1 := World.new_ne W0.drew ⟨w.heap.size + 1 + 1, 0, none⟩ (S00.out.cell (b := w.heap.size + 1 + 1) (cs := #[.int .i64 z0, .int .i64 z1, .int .i64 z2, .int .i64 z3]) (t := 22) (by simp) 0)
    have hE0 := St.lt S00.out (A := Ea) (l := a.after) (by simp)
    clear hk0
    first | go_region_held3 (fun W => W.cell? ⟨Ba, 0, none⟩ = some (.int .i64 a.u) ∧ W.cell? ⟨Ba, 1, none⟩ = some (.slice Ea a.after.length ma) ∧ W.cell? ⟨Ba, 2, none⟩ = some (.int .i64 a.ap) ∧ W.cell? ⟨Ba, 3, none⟩ = some (.int .i64 a.den) ∧ W.cell? ⟨w.heap.size + 1, 0, none⟩ = some (.int .i64 y0) ∧ W.cell? ⟨w.heap.size + 1, 1, none⟩ = some (.int .i64 y1) ∧ W.cell? ⟨w.heap.size + 1, 2, none⟩ = some (.int .i64 y2) ∧ W.cell? ⟨w.heap.size + 1, 3, none⟩ = some (.int .i64 y3)) (first | with_reducible exact K.out _ _ _ (fun p hp => hp) SS.out | with_reducible exact K.out _ _ _ (fun p hp => List.mem_cons_of_mem _ hp) SS.out | with_reducible exact K.out _ _ _ (fun p hp => hp) (St.alloc SS.out _) | with_reducible exact K.out _ _ _ (fun p hp => List.mem_cons_of_mem _ hp) (St.alloc SS.out _) | go_keep) (first | (go_at_call 22; apply Calls.mono; with_reducible apply join_st2 (w := w) a b; (first | exact SS.out | exact St.box SS.out _ _ | exact St.drew (St.box SW0.out _ _)); (first | assumption | simp); assumption; (first | assumption | simp); assumption; rintro e WR2 ⟨Ej, mj, rfl, hmj, h1_, hbj, hCj, hEj⟩; rw [hj] at hmj hCj ⊢; have hbx := (h1_.boxes _ (List.mem_cons_self ..)).2; dsimp only at hbx; have zz0 := cell_of_heap hbx 0; have ff0 := frozen_of_heap hbx 0; have zz1 := cell_of_heap hbx 1; have ff1 := frozen_of_heap hbx 1; have zz2 := cell_of_heap hbx 2; have ff2 := frozen_of_heap hbx 2; have zz3 := cell_of_heap hbx 3; have ff3 := frozen_of_heap hbx 3; have SS := Aside0.mk h1_; clear h1_) | (go_at_call 14; apply Calls.mono; with_reducible apply make_st (w := w) y0 y1 y2 y3; (first | exact SS.out | exact St.box SS.out _ _ | exact St.drew (St.box SW0.out _ _)); assumption; assumption; assumption; rintro e WR1 ⟨Eb, mb, rfl, hmb, h1_⟩; rw [hb] at hmb h1_ ⊢; have hk1 := (by first | exact K.out _ _ _ (fun p hp => hp) h1_ | exact K.out _ _ _ (fun p hp => List.mem_cons_of_mem _ hp) h1_ : WR1.cell? ⟨Ba, 0, none⟩ = some (.int .i64 a.u) ∧ WR1.cell? ⟨Ba, 1, none⟩ = some (.slice Ea a.after.length ma) ∧ WR1.cell? ⟨Ba, 2, none⟩ = some (.int .i64 a.ap) ∧ WR1.cell? ⟨Ba, 3, none⟩ = some (.int .i64 a.den) ∧ WR1.cell? ⟨w.heap.size + 1, 0, none⟩ = some (.int .i64 y0) ∧ WR1.cell? ⟨w.heap.size + 1, 1, none⟩ = some (.int .i64 y1) ∧ WR1.cell? ⟨w.heap.size + 1, 2, none⟩ = some (.int .i64 y2) ∧ WR1.cell? ⟨w.heap.size + 1, 3, none⟩ = some (.int .i64 y3)); have nA := World.new_ne WR1 ⟨Ba, 0, none⟩ hk1.1; have nY := World.new_ne WR1 ⟨w.heap.size + 1, 0, none⟩ hk1.2.2.2.2.1; clear hk1; dsimp only at nA nY; have nZ := World.new_ne WR1 ⟨w.heap.size + 1 + 1, 0, none⟩ (KZ.out _ _ _ (by simp) h1_); dsimp only at nZ; have hE1 := St.lt h1_ (A := Ea) (l := a.after) (by simp); have hlt1 := (Array.getElem?_eq_some_iff.1 (h1_.boxes _ (List.mem_cons_self ..)).2).1; dsimp only at hlt1; have SS := Aside0.mk h1_; clear h1_)) | fail
    all_goals (go_wp2_with fail; go_meet)
    · case rel => exact ⟨WR2.heap.size, Ej, mj, rfl, hmj, ⟨((SS.out.add hCj).box _ _).sub (by simp) (by simp)⟩⟩
    · case rel => exact ⟨WR1.heap.size, Ej, mj, rfl, hmj, ⟨St.poke5 SS.out (L' := [(Ea, a.after)]) (by simp; exact fun ad h1 h2 => Nat.ne_of_lt (hE1 ad h1 h2)) (by simp; exact ⟨fun e => nA e.symm, fun e => nZ e.symm⟩) hCj (fun ad h => by have := (hEj ad h).1; simp only [World.size_alloc] at this; omega)⟩⟩
    · case rel => exact ⟨W0.heap.size, Ej, mj, rfl, hmj, ⟨St.poke5 SS.out (L' := [(Ea, a.after)]) (by simp; exact fun ad h1 h2 => Nat.ne_of_lt (hE0 ad h1 h2)) (by simp; exact ⟨fun e => nA0 e.symm, fun e => nZ0 e.symm⟩) hCj (fun ad h => by have h1 := (hEj ad h).1; have h2 : W0.heap.size < WR1.heap.size := hlt1; omega)⟩⟩
  case rest =>
    clear SS SW0 S00
    obtain ⟨B, Ej, mj, rfl, hmj, SC⟩ := hcut
    have hl64 := Lab.len_le oj.out
    obtain ⟨st1, hst1⟩ : ∃ l : Lab, mk 0 z1 0 0 = l := ⟨_, rfl⟩
    have hok1 : Lab.Ok st1 := hst1 ▸ mk_ok 0 z1 0 0
    have hs64 := Lab.len_le hok1
    have SD := Aside0.mk (St.drew SC.out)
    have K : Aside0 (∀ (L : List (Option Addr × List Int)) (W : World), St w L [(B, #[.int .i64 j.u, .slice Ej j.after.length mj, .int .i64 j.ap, .int .i64 j.den], 26), (Ba, #[.int .i64 a.u, .slice Ea a.after.length ma, .int .i64 a.ap, .int .i64 a.den], 26), (w.heap.size + 1 + 1, #[.int .i64 z0, .int .i64 z1, .int .i64 z2, .int .i64 z3], 22)] W → W.cell? ⟨B, 0, none⟩ = some (.int .i64 j.u) ∧ W.cell? ⟨B, 1, none⟩ = some (.slice Ej j.after.length mj) ∧ W.cell? ⟨B, 2, none⟩ = some (.int .i64 j.ap) ∧ W.cell? ⟨B, 3, none⟩ = some (.int .i64 j.den) ∧ W.cell? ⟨w.heap.size + 1 + 1, 0, none⟩ = some (.int .i64 z0) ∧ W.cell? ⟨w.heap.size + 1 + 1, 1, none⟩ = some (.int .i64 z1) ∧ W.cell? ⟨w.heap.size + 1 + 1, 2, none⟩ = some (.int .i64 z2) ∧ W.cell? ⟨w.heap.size + 1 + 1, 3, none⟩ = some (.int .i64 z3)) := Aside0.mk (fun L W h => ⟨h.cell (b := B) (cs := #[.int .i64 j.u, .slice Ej j.after.length mj, .int .i64 j.ap, .int .i64 j.den]) (t := 26) (by simp) 0, h.cell (b := B) (cs := #[.int .i64 j.u, .slice Ej j.after.length mj, .int .i64 j.ap, .int .i64 j.den]) (t := 26) (by simp) 1, h.cell (b := B) (cs := #[.int .i64 j.u, .slice Ej j.after.length mj, .int .i64 j.ap, .int .i64 j.den]) (t := 26) (by simp) 2, h.cell (b := B) (cs := #[.int .i64 j.u, .slice Ej j.after.length mj, .int .i64 j.ap, .int .i64 j.den]) (t := 26) (by simp) 3, h.cell (b := w.heap.size + 1 + 1) (cs := #[.int .i64 z0, .int .i64 z1, .int .i64 z2, .int .i64 z3]) (t := 22) (by simp) 0, h.cell (b := w.heap.size + 1 + 1) (cs := #[.int .i64 z0, .int .i64 z1, .int .i64 z2, .int .i64 z3]) (t := 22) (by simp) 1, h.cell (b := w.heap.size + 1 + 1) (cs := #[.int .i64 z0, .int .i64 z1, .int .i64 z2, .int .i64 z3]) (t := 22) (by simp) 2, h.cell (b := w.heap.size + 1 + 1) (cs := #[.int .i64 z0, .int .i64 z1, .int .i64 z2, .int .i64 z3]) (t := 22) (by simp) 3⟩)
    go_upto_region 4 with fail
    refine wp_region_held_drew (S := (fun W => W.cell? ⟨B, 0, none⟩ = some (.int .i64 j.u) ∧ W.cell? ⟨B, 1, none⟩ = some (.slice Ej j.after.length mj) ∧ W.cell? ⟨B, 2, none⟩ = some (.int .i64 j.ap) ∧ W.cell? ⟨B, 3, none⟩ = some (.int .i64 j.den) ∧ W.cell? ⟨w.heap.size + 1 + 1, 0, none⟩ = some (.int .i64 z0) ∧ W.cell? ⟨w.heap.size + 1 + 1, 1, none⟩ = some (.int .i64 z1) ∧ W.cell? ⟨w.heap.size + 1 + 1, 2, none⟩ = some (.int .i64 z2) ∧ W.cell? ⟨w.heap.size + 1 + 1, 3, none⟩ = some (.int .i64 z3))) (by kernel_rfl) (by (try dsimp only); (first | with_reducible exact K.out _ _ SE.out | with_reducible exact K.out _ _ SD.out)) (fun hHeld => ?_)
    first | refine reg_tk 0 ?_ | refine reg_sk 0 ?_ | fail
    (try simp only [Act.put, List.setIfInBounds_toArray, List.set_cons_zero, List.set_cons_succ])
    first | refine reg_tk 1 ?_ | refine reg_sk 1 ?_ | fail
    (try simp only [Act.put, List.setIfInBounds_toArray, List.set_cons_zero, List.set_cons_succ])
    first | refine reg_tk 3 ?_ | refine reg_sk 3 ?_ | fail
    (try simp only [Act.put, List.setIfInBounds_toArray, List.set_cons_zero, List.set_cons_succ])
    first | refine reg_tk 4 ?_ | refine reg_sk 4 ?_ | fail
    (try simp only [Act.put, List.setIfInBounds_toArray, List.set_cons_zero, List.set_cons_succ])
    first | refine reg_sk 2 ?_ | (refine reg_one 2 (fun KK_ hKK_ => ?_); go_simp; (go_at_call 26; refine (stories_own z1 _).mono ?_; rintro e W1 ⟨v0, rfl, HO, HB⟩; rw [hst1] at HO; have SE := Aside0.mk (SD.out.step HB)); refine hKK_.out _ _ (by (try dsimp only); (first | with_reducible exact K.out _ _ SE.out | with_reducible exact K.out _ _ SD.out)) (fun hHeld => ?_); clear hKK_ KK_) | fail
    (try simp only [Act.put, List.setIfInBounds_toArray, List.set_cons_zero, List.set_cons_succ])
    refine reg_one 5 (fun KK_ hKK_ => ?_)
    refine wp_append_ints (xs := st1.after) (ys := j.after) rfl rfl rfl rfl HO (SE.out.get (A := Ej) (l := j.after) (by simp)) HB.size (by omega) ?_
    intro v1 W2 HO2 hb2
    have HB2 := HB.trans hb2
    refine hKK_.out _ _ (K.out _ _ (SD.out.step HB2)) (fun hHeld => ?_)
    clear hKK_ KK_ HO hb2 SE
    (try simp only [Act.put, List.setIfInBounds_toArray, List.set_cons_zero, List.set_cons_succ])
    first | refine reg_tk 6 ?_ | refine reg_sk 6 ?_ | fail
    (try simp only [Act.put, List.setIfInBounds_toArray, List.set_cons_zero, List.set_cons_succ])
    refine wpAnyH_done (by kernel_rfl) ?_ _
    obtain ⟨Eo, mo, rfl, hmo, hCo⟩ := own_reads HO2
    obtain ⟨out, hout⟩ : ∃ l, st1.after ++ j.after = l := ⟨_, rfl⟩
    have hol : out.length ≤ 128 := by
      rw [← hout, List.length_append]
      omega
    rw [hout] at hmo hCo ⊢
    have SO := Aside0.mk (St.add (SD.out.step HB2) hCo)
    clear HO2 hCo K hHeld hout SD SC
    have SD := Aside0.mk (St.drew SO.out)
    have K : Aside0 (∀ (L : List (Option Addr × List Int)) (W : World), St w L [(B, #[.int .i64 j.u, .slice Ej j.after.length mj, .int .i64 j.ap, .int .i64 j.den], 26), (Ba, #[.int .i64 a.u, .slice Ea a.after.length ma, .int .i64 a.ap, .int .i64 a.den], 26), (w.heap.size + 1 + 1, #[.int .i64 z0, .int .i64 z1, .int .i64 z2, .int .i64 z3], 22)] W → W.cell? ⟨w.heap.size + 1 + 1, 0, none⟩ = some (.int .i64 z0) ∧ W.cell? ⟨w.heap.size + 1 + 1, 1, none⟩ = some (.int .i64 z1) ∧ W.cell? ⟨w.heap.size + 1 + 1, 2, none⟩ = some (.int .i64 z2) ∧ W.cell? ⟨w.heap.size + 1 + 1, 3, none⟩ = some (.int .i64 z3)) := Aside0.mk (fun L W h => ⟨h.cell (b := w.heap.size + 1 + 1) (cs := #[.int .i64 z0, .int .i64 z1, .int .i64 z2, .int .i64 z3]) (t := 22) (by simp) 0, h.cell (b := w.heap.size + 1 + 1) (cs := #[.int .i64 z0, .int .i64 z1, .int .i64 z2, .int .i64 z3]) (t := 22) (by simp) 1, h.cell (b := w.heap.size + 1 + 1) (cs := #[.int .i64 z0, .int .i64 z1, .int .i64 z2, .int .i64 z3]) (t := 22) (by simp) 2, h.cell (b := w.heap.size + 1 + 1) (cs := #[.int .i64 z0, .int .i64 z1, .int .i64 z2, .int .i64 z3]) (t := 22) (by simp) 3⟩)
    have hmk : ∀ w, (Instr.makeSlice 23 (.int .i64 0) (.int .i64 140)).run Try.prog w = .ok (.slice (some ⟨w.heap.size, 0, none⟩) 0 140) (w.alloc (.cells (madeCells #[.int .i64 0] 140) 3)) := make_ints 140 (by omega)
    go_upto_region 5 with fail
    obtain ⟨st3, hst3⟩ : ∃ l : Lab, mk 0 z3 0 0 = l := ⟨_, rfl⟩
    have hok3 : Lab.Ok st3 := hst3 ▸ mk_ok 0 z3 0 0
    have h3l := Lab.len_le hok3
    refine wp_region_held_drew (S := (fun W => W.cell? ⟨w.heap.size + 1 + 1, 0, none⟩ = some (.int .i64 z0) ∧ W.cell? ⟨w.heap.size + 1 + 1, 1, none⟩ = some (.int .i64 z1) ∧ W.cell? ⟨w.heap.size + 1 + 1, 2, none⟩ = some (.int .i64 z2) ∧ W.cell? ⟨w.heap.size + 1 + 1, 3, none⟩ = some (.int .i64 z3))) (by kernel_rfl) (by (try dsimp only); (with_reducible exact K.out _ _ SD.out)) (fun hHeld => ?_)
    obtain ⟨WD, hWD⟩ : ∃ W, W2.drew = W := ⟨_, rfl⟩
    rw [hWD] at SD hHeld ⊢
    first | refine reg_tk 1 ?_ | refine reg_sk 1 ?_ | fail
    (try simp only [Act.put, List.setIfInBounds_toArray, List.set_cons_zero, List.set_cons_succ])
    first | refine reg_tk 3 ?_ | refine reg_sk 3 ?_ | fail
    (try simp only [Act.put, List.setIfInBounds_toArray, List.set_cons_zero, List.set_cons_succ])
    first | refine reg_tk 4 ?_ | refine reg_sk 4 ?_ | fail
    (try simp only [Act.put, List.setIfInBounds_toArray, List.set_cons_zero, List.set_cons_succ])
    refine reg_one 0 (fun KK_ hKK_ => ?_)
    go_simp
    have HO := own_made 140 (by omega) WD
    have HB : Below WD.heap.size WD (WD.alloc (.cells (madeCells #[.int .i64 0] 140) 3)) := below_alloc (Below.refl _ _) _
    generalize WD.alloc (.cells (madeCells #[.int .i64 0] 140) 3) = W3 at HO HB ⊢
    generalize (Value.slice (some ⟨WD.heap.size, 0, none⟩) 0 140) = q0 at HO ⊢
    refine hKK_.out _ _ (K.out _ _ (SD.out.step HB)) (fun hHeld => ?_)
    clear hKK_ KK_
    (try simp only [Act.put, List.setIfInBounds_toArray, List.set_cons_zero, List.set_cons_succ])
    refine reg_one 2 (fun KK_ hKK_ => ?_)
    refine wp_append_ints (base := WD.heap.size) (xs := []) (ys := out) rfl rfl rfl rfl HO ((SD.out.step HB).get (A := Eo) (l := out) (by simp)) HB.size (by simp only [List.length_nil]; omega) ?_
    intro q1 W4 HO2 hb2
    have HB2 := HB.trans hb2
    refine hKK_.out _ _ (K.out _ _ (SD.out.step HB2)) (fun hHeld => ?_)
    clear hKK_ KK_ HO hb2
    (try simp only [Act.put, List.setIfInBounds_toArray, List.set_cons_zero, List.set_cons_succ])
    refine reg_one 5 (fun KK_ hKK_ => ?_)
    go_simp
    go_at_call 26
    refine (stories_own z3 _).mono ?_
    rintro e W5 ⟨v5, rfl, HO5, HB5⟩
    rw [hst3] at HO5
    obtain ⟨E5, m5, rfl, hm5, hC5⟩ := own_reads HO5
    have HO3 := own_step HO2 HB5
    have HB3 := HB2.trans (HB5.mono HB2.size)
    refine hKK_.out _ _ (K.out _ _ (SD.out.step HB3)) (fun hHeld => ?_)
    clear hKK_ KK_ HO2 HO5 HB5
    (try simp only [Act.put, List.setIfInBounds_toArray, List.set_cons_zero, List.set_cons_succ])
    refine reg_one 6 (fun KK_ hKK_ => ?_)
    refine wp_append_ints (base := WD.heap.size) (xs := [] ++ out) (ys := st3.after) rfl rfl rfl rfl HO3 hC5 HB3.size (by simp only [List.nil_append]; omega) ?_
    intro q2 W6 HO4 hb4
    have HB4 := HB3.trans hb4
    refine hKK_.out _ _ (K.out _ _ (SD.out.step HB4)) (fun hHeld => ?_)
    clear hKK_ KK_ HO3 hb4
    (try simp only [Act.put, List.setIfInBounds_toArray, List.set_cons_zero, List.set_cons_succ])
    first | refine reg_tk 7 ?_ | refine reg_sk 7 ?_ | fail
    (try simp only [Act.put, List.setIfInBounds_toArray, List.set_cons_zero, List.set_cons_succ])
    refine wpAnyH_done (by kernel_rfl) ?_ _
    rw [List.nil_append] at HO4
    obtain ⟨Em, mm, rfl, hmm, hCm⟩ := own_reads HO4
    have hsub : ∀ x ∈ out, x ∈ out ++ st3.after := fun x hx => List.mem_append_left _ hx
    obtain ⟨more, hmore⟩ : ∃ l, out ++ st3.after = l := ⟨_, rfl⟩
    rw [hmore] at hmm hCm hsub ⊢
    have SM := Aside0.mk (St.add (SD.out.step HB4) hCm)
    have HS := Aside0.mk hsub
    clear HO4 hCm K hHeld hmore SD SO HB HB2 HB3 HB4 hWD hC5 hsub hmk
    obtain ⟨p0, hp0, hp0a, hp0b⟩ := pick_f z0 2000000000 hz0 (by omega)
    obtain ⟨p2, hp2, hp2a, hp2b⟩ := pick_f z2 8 hz2 (by omega)
    obtain ⟨q1, hq1, hq1a, hq1b⟩ := pick_f z3 1000 hz3 (by omega)
    obtain ⟨q2, hq2, hq2a, hq2b⟩ := pick_f z3 5 hz3 (by omega)
    have LJ : Aside0 (Lab.leq a j = true) := Aside0.mk (hj ▸ Lab.leq_join_l oa.out ob.out)
    have hju := oj.out
    obtain ⟨ju0, ju1, _⟩ := hju
    go_wp2
    go_loopg [7, 12] 5 (fun gk v7 v12 w' => ∃ i1 : Nat, v7 = .bool true ∧ v12 = .int .i64 i1 ∧ Aside0 (i1 ≤ 4 ∧ gk = 4 - i1 + 1 ∧ St w [(Em, more), (Eo, out), (Ej, j.after), (Ea, a.after)] [(B, #[.int .i64 j.u, .slice Ej j.after.length mj, .int .i64 j.ap, .int .i64 j.den], 26), (Ba, #[.int .i64 a.u, .slice Ea a.after.length ma, .int .i64 a.ap, .int .i64 a.den], 26), (w.heap.size + 1 + 1, #[.int .i64 z0, .int .i64 z1, .int .i64 z2, .int .i64 z3], 22)] w'))
    case atStart => exact ⟨0, rfl, rfl, ⟨⟨by omega, by omega, SM.out⟩⟩⟩
    case round =>
      obtain ⟨i1, rfl, rfl, HI⟩ := hrel
      obtain ⟨hl1, hg1, SR⟩ := HI.out
      clear HI
      have R1 := Aside0.mk SR
      clear SR
      by_cases hi1 : i1 < 4
      · have hd1 : decide ((i1 : Int) < 4) = true := decide_eq_true (by omega)
        go_upto_region 9 with fail
        have SP := Aside0.mk (St.drew R1.out)
        have K : Aside0 (∀ (L : List (Option Addr × List Int)) (W : World), St w L [(B, #[.int .i64 j.u, .slice Ej j.after.length mj, .int .i64 j.ap, .int .i64 j.den], 26), (Ba, #[.int .i64 a.u, .slice Ea a.after.length ma, .int .i64 a.ap, .int .i64 a.den], 26), (w.heap.size + 1 + 1, #[.int .i64 z0, .int .i64 z1, .int .i64 z2, .int .i64 z3], 22)] W → W.cell? ⟨B, 0, none⟩ = some (.int .i64 j.u) ∧ W.cell? ⟨B, 1, none⟩ = some (.slice Ej j.after.length mj) ∧ W.cell? ⟨B, 2, none⟩ = some (.int .i64 j.ap) ∧ W.cell? ⟨B, 3, none⟩ = some (.int .i64 j.den) ∧ W.cell? ⟨w.heap.size + 1 + 1, 0, none⟩ = some (.int .i64 z0) ∧ W.cell? ⟨w.heap.size + 1 + 1, 1, none⟩ = some (.int .i64 z1) ∧ W.cell? ⟨w.heap.size + 1 + 1, 2, none⟩ = some (.int .i64 z2) ∧ W.cell? ⟨w.heap.size + 1 + 1, 3, none⟩ = some (.int .i64 z3)) := Aside0.mk (fun L W h => ⟨h.cell (b := B) (cs := #[.int .i64 j.u, .slice Ej j.after.length mj, .int .i64 j.ap, .int .i64 j.den]) (t := 26) (by simp) 0, h.cell (b := B) (cs := #[.int .i64 j.u, .slice Ej j.after.length mj, .int .i64 j.ap, .int .i64 j.den]) (t := 26) (by simp) 1, h.cell (b := B) (cs := #[.int .i64 j.u, .slice Ej j.after.length mj, .int .i64 j.ap, .int .i64 j.den]) (t := 26) (by simp) 2, h.cell (b := B) (cs := #[.int .i64 j.u, .slice Ej j.after.length mj, .int .i64 j.ap, .int .i64 j.den]) (t := 26) (by simp) 3, h.cell (b := w.heap.size + 1 + 1) (cs := #[.int .i64 z0, .int .i64 z1, .int .i64 z2, .int .i64 z3]) (t := 22) (by simp) 0, h.cell (b := w.heap.size + 1 + 1) (cs := #[.int .i64 z0, .int .i64 z1, .int .i64 z2, .int .i64 z3]) (t := 22) (by simp) 1, h.cell (b := w.heap.size + 1 + 1) (cs := #[.int .i64 z0, .int .i64 z1, .int .i64 z2, .int .i64 z3]) (t := 22) (by simp) 2, h.cell (b := w.heap.size + 1 + 1) (cs := #[.int .i64 z0, .int .i64 z1, .int .i64 z2, .int .i64 z3]) (t := 22) (by simp) 3⟩)
        refine wp_region_held_drew (S := (fun W => W.cell? ⟨B, 0, none⟩ = some (.int .i64 j.u) ∧ W.cell? ⟨B, 1, none⟩ = some (.slice Ej j.after.length mj) ∧ W.cell? ⟨B, 2, none⟩ = some (.int .i64 j.ap) ∧ W.cell? ⟨B, 3, none⟩ = some (.int .i64 j.den) ∧ W.cell? ⟨w.heap.size + 1 + 1, 0, none⟩ = some (.int .i64 z0) ∧ W.cell? ⟨w.heap.size + 1 + 1, 1, none⟩ = some (.int .i64 z1) ∧ W.cell? ⟨w.heap.size + 1 + 1, 2, none⟩ = some (.int .i64 z2) ∧ W.cell? ⟨w.heap.size + 1 + 1, 3, none⟩ = some (.int .i64 z3))) (by kernel_rfl) (by (try dsimp only); (with_reducible exact K.out _ _ SP.out)) (fun hHeld => ?_)
        first | refine reg_tk 0 ?_ | refine reg_sk 0 ?_ | fail
        (try simp only [Act.put, List.setIfInBounds_toArray, List.set_cons_zero, List.set_cons_succ])
        first | refine reg_tk 1 ?_ | refine reg_sk 1 ?_ | fail
        (try simp only [Act.put, List.setIfInBounds_toArray, List.set_cons_zero, List.set_cons_succ])
        first | refine reg_tk 2 ?_ | refine reg_sk 2 ?_ | fail
        (try simp only [Act.put, List.setIfInBounds_toArray, List.set_cons_zero, List.set_cons_succ])
        first | refine reg_tk 3 ?_ | refine reg_sk 3 ?_ | fail
        (try simp only [Act.put, List.setIfInBounds_toArray, List.set_cons_zero, List.set_cons_succ])
        first | refine reg_tk 7 ?_ | refine reg_sk 7 ?_ | fail
        (try simp only [Act.put, List.setIfInBounds_toArray, List.set_cons_zero, List.set_cons_succ])
        first | refine reg_sk 4 ?_ | (refine reg_one 4 (fun KK_ hKK_ => ?_); go_simp; (have G_ := SP; clear G_; go_at_call 27; apply Calls.mono; apply pick_st z0 _ p0 hp0; rintro e WR ⟨rfl, hd_⟩; have SP := Aside0.mk (SP.out.step hd_.below); clear hd_); refine hKK_.out _ _ (by (try dsimp only); (with_reducible exact K.out _ _ SP.out)) (fun hHeld => ?_); clear hKK_ KK_) | fail
        (try simp only [Act.put, List.setIfInBounds_toArray, List.set_cons_zero, List.set_cons_succ])
        refine reg_one 5 (fun KK_ hKK_ => ?_)
        go_simp
        have SB_ := St.box SP.out #[.int .i64 j.u, .int .i64 p0] 3
        obtain ⟨T, hT⟩ : ∃ T, WR.heap.size = T := ⟨_, rfl⟩
        rw [hT] at SB_ ⊢
        generalize WR.alloc (.cells #[.int .i64 j.u, .int .i64 p0] 3) = WT at SB_ ⊢
        have ST := Aside0.mk SB_
        clear SB_ hT
        refine hKK_.out _ _ (K.out _ _ ST.out.tail) (fun hHeld => ?_)
        clear hKK_ KK_
        (try simp only [Act.put, List.setIfInBounds_toArray, List.set_cons_zero, List.set_cons_succ])
        first | refine reg_tk 6 ?_ | refine reg_sk 6 ?_ | fail
        (try simp only [Act.put, List.setIfInBounds_toArray, List.set_cons_zero, List.set_cons_succ])
        refine wpAnyH_done (by kernel_rfl) ?_ _
        clear K hHeld SP
        have TB : Aside0 (∀ i, i < 2 → ∃ n : Int, n ∈ [j.u, p0] ∧ ∀ (L' : List (Option Addr × List Int)) (M' : List (Nat × Array Value × TypeId)) (W' : World), (T, (#[.int .i64 j.u, .int .i64 p0] : Array Value), 3) ∈ M' → St w L' M' W' → W'.cell? ⟨T, i, none⟩ = some (.int .i64 n)) := Aside0.mk (fun i hi => ints_at [j.u, p0] rfl i hi)
        go_wp2
        go_loopg [7, 47] 3 (fun gk v7 v47 w' => ∃ i2 : Nat, v7 = .bool true ∧ v47 = .int .i64 i2 ∧ Aside0 (i2 ≤ 2 ∧ gk = 2 - i2 + 1 ∧ St w [(Em, more), (Eo, out), (Ej, j.after), (Ea, a.after)] [(T, #[.int .i64 j.u, .int .i64 p0], 3), (B, #[.int .i64 j.u, .slice Ej j.after.length mj, .int .i64 j.ap, .int .i64 j.den], 26), (Ba, #[.int .i64 a.u, .slice Ea a.after.length ma, .int .i64 a.ap, .int .i64 a.den], 26), (w.heap.size + 1 + 1, #[.int .i64 z0, .int .i64 z1, .int .i64 z2, .int .i64 z3], 22)] w'))
        case atStart => exact ⟨0, rfl, rfl, ⟨⟨by omega, by omega, ST.out⟩⟩⟩
        case round =>
          obtain ⟨i2, rfl, rfl, HI⟩ := hrel
          obtain ⟨hl2, hg2, SR⟩ := HI.out
          clear HI
          have R2 := Aside0.mk SR
          clear SR
          by_cases hi2 : i2 < 2
          · have hd2 : decide ((i2 : Int) < 2) = true := decide_eq_true (by omega)
            obtain ⟨now, hnow, hcn⟩ := TB.out i2 hi2
            have hnb : 0 ≤ now ∧ now ≤ 2000000000 := by
              simp only [List.mem_cons, List.not_mem_nil, or_false] at hnow
              rcases hnow with rfl | rfl
              · exact ⟨by omega, by omega⟩
              · exact ⟨by omega, by omega⟩
            clear hnow
            have ec := hcn _ _ _ (by simp) R2.out
            clear hcn
            have jc0 := R2.out.cell (b := B) (cs := #[.int .i64 j.u, .slice Ej j.after.length mj, .int .i64 j.ap, .int .i64 j.den]) (t := 26) (by simp) 0
            have jc1 := R2.out.cell (b := B) (cs := #[.int .i64 j.u, .slice Ej j.after.length mj, .int .i64 j.ap, .int .i64 j.den]) (t := 26) (by simp) 1
            have jc2 := R2.out.cell (b := B) (cs := #[.int .i64 j.u, .slice Ej j.after.length mj, .int .i64 j.ap, .int .i64 j.den]) (t := 26) (by simp) 2
            have jc3 := R2.out.cell (b := B) (cs := #[.int .i64 j.u, .slice Ej j.after.length mj, .int .i64 j.ap, .int .i64 j.den]) (t := 26) (by simp) 3
            have zc0 := R2.out.cell (b := w.heap.size + 1 + 1) (cs := #[.int .i64 z0, .int .i64 z1, .int .i64 z2, .int .i64 z3]) (t := 22) (by simp) 0
            have zc1 := R2.out.cell (b := w.heap.size + 1 + 1) (cs := #[.int .i64 z0, .int .i64 z1, .int .i64 z2, .int .i64 z3]) (t := 22) (by simp) 1
            have zc2 := R2.out.cell (b := w.heap.size + 1 + 1) (cs := #[.int .i64 z0, .int .i64 z1, .int .i64 z2, .int .i64 z3]) (t := 22) (by simp) 2
            have zc3 := R2.out.cell (b := w.heap.size + 1 + 1) (cs := #[.int .i64 z0, .int .i64 z1, .int .i64 z2, .int .i64 z3]) (t := 22) (by simp) 3
            have hw1 : IntKind.i64.wrap (now + q1) = now + q1 := by
              rw [IntKind.wrap_i64]
              omega
            have hw2 : IntKind.i64.wrap (p2 + q2) = p2 + q2 := by
              rw [IntKind.wrap_i64]
              omega
            cases hA : Lab.allows j (i1 : Int) now out p2
            · go_wp2_with (first | (have G_ := Q1; clear G_; go_at_call 24; apply Calls.mono; with_reducible apply allows_st (w := w) j; exact Q1.out; (first | assumption | simp); (first | assumption | simp); (first | assumption | simp); (first | assumption | simp); rintro e WR ⟨rfl, h1_⟩; rw [hA]; have Q2 := Aside0.mk h1_; clear h1_; clear jc0 jc1 jc2 jc3) | (have G_ := R2; clear G_; go_at_call 27; apply Calls.mono; apply pick_st z2 _ p2 hp2; rintro e WR ⟨rfl, hd_⟩; have Q1 := Aside0.mk (R2.out.step hd_.below); clear hd_; clear jc0 jc1 jc2 jc3 zc0 zc1 zc2 zc3; have jc0 := Q1.out.cell (b := B) (cs := #[.int .i64 j.u, .slice Ej j.after.length mj, .int .i64 j.ap, .int .i64 j.den]) (t := 26) (by simp) 0; have jc1 := Q1.out.cell (b := B) (cs := #[.int .i64 j.u, .slice Ej j.after.length mj, .int .i64 j.ap, .int .i64 j.den]) (t := 26) (by simp) 1; have jc2 := Q1.out.cell (b := B) (cs := #[.int .i64 j.u, .slice Ej j.after.length mj, .int .i64 j.ap, .int .i64 j.den]) (t := 26) (by simp) 2; have jc3 := Q1.out.cell (b := B) (cs := #[.int .i64 j.u, .slice Ej j.after.length mj, .int .i64 j.ap, .int .i64 j.den]) (t := 26) (by simp) 3))
              skip
              go_roundg (2 - i2)
              case rel => exact ⟨i2 + 1, rfl, by simp, ⟨⟨by omega, by omega, Q2.out⟩⟩⟩
              case measure => omega
            · go_upto_region 14 with (first | (have G_ := Q1; clear G_; go_at_call 24; apply Calls.mono; with_reducible apply allows_st (w := w) j; exact Q1.out; (first | assumption | simp); (first | assumption | simp); (first | assumption | simp); (first | assumption | simp); rintro e WR ⟨rfl, h1_⟩; rw [hA]; have Q2 := Aside0.mk h1_; clear h1_; clear jc0 jc1 jc2 jc3) | (have G_ := R2; clear G_; go_at_call 27; apply Calls.mono; apply pick_st z2 _ p2 hp2; rintro e WR ⟨rfl, hd_⟩; have Q1 := Aside0.mk (R2.out.step hd_.below); clear hd_; clear jc0 jc1 jc2 jc3 zc0 zc1 zc2 zc3; have jc0 := Q1.out.cell (b := B) (cs := #[.int .i64 j.u, .slice Ej j.after.length mj, .int .i64 j.ap, .int .i64 j.den]) (t := 26) (by simp) 0; have jc1 := Q1.out.cell (b := B) (cs := #[.int .i64 j.u, .slice Ej j.after.length mj, .int .i64 j.ap, .int .i64 j.den]) (t := 26) (by simp) 1; have jc2 := Q1.out.cell (b := B) (cs := #[.int .i64 j.u, .slice Ej j.after.length mj, .int .i64 j.ap, .int .i64 j.den]) (t := 26) (by simp) 2; have jc3 := Q1.out.cell (b := B) (cs := #[.int .i64 j.u, .slice Ej j.after.length mj, .int .i64 j.ap, .int .i64 j.den]) (t := 26) (by simp) 3))
              have t1 : Lab.allows a (i1 : Int) now out p2 = true := Lab.allows_mono LJ.out (Int.le_refl _) (fun _ h => h) (Int.le_refl _) hA
              have t2 : Lab.allows j (i1 : Int) (now + q1) out p2 = true := Lab.allows_mono (Lab.leq_refl oj.out) (by omega) (fun _ h => h) (Int.le_refl _) hA
              have t3 : Lab.allows j (i1 : Int) now more p2 = true := Lab.allows_mono (Lab.leq_refl oj.out) (Int.le_refl _) HS.out (Int.le_refl _) hA
              have t4 : Lab.allows j (i1 : Int) now out (p2 + q2) = true := Lab.allows_mono (Lab.leq_refl oj.out) (Int.le_refl _) (fun _ h => h) (by omega) hA
              have SZ := Aside0.mk (St.drew Q2.out)
              clear Q2
              have K : Aside0 (∀ (L : List (Option Addr × List Int)) (W : World), St w L [(T, #[.int .i64 j.u, .int .i64 p0], 3), (B, #[.int .i64 j.u, .slice Ej j.after.length mj, .int .i64 j.ap, .int .i64 j.den], 26), (Ba, #[.int .i64 a.u, .slice Ea a.after.length ma, .int .i64 a.ap, .int .i64 a.den], 26), (w.heap.size + 1 + 1, #[.int .i64 z0, .int .i64 z1, .int .i64 z2, .int .i64 z3], 22)] W → W.cell? ⟨B, 0, none⟩ = some (.int .i64 j.u) ∧ W.cell? ⟨B, 1, none⟩ = some (.slice Ej j.after.length mj) ∧ W.cell? ⟨B, 2, none⟩ = some (.int .i64 j.ap) ∧ W.cell? ⟨B, 3, none⟩ = some (.int .i64 j.den) ∧ W.cell? ⟨Ba, 0, none⟩ = some (.int .i64 a.u) ∧ W.cell? ⟨Ba, 1, none⟩ = some (.slice Ea a.after.length ma) ∧ W.cell? ⟨Ba, 2, none⟩ = some (.int .i64 a.ap) ∧ W.cell? ⟨Ba, 3, none⟩ = some (.int .i64 a.den) ∧ W.cell? ⟨w.heap.size + 1 + 1, 0, none⟩ = some (.int .i64 z0) ∧ W.cell? ⟨w.heap.size + 1 + 1, 1, none⟩ = some (.int .i64 z1) ∧ W.cell? ⟨w.heap.size + 1 + 1, 2, none⟩ = some (.int .i64 z2) ∧ W.cell? ⟨w.heap.size + 1 + 1, 3, none⟩ = some (.int .i64 z3)) := Aside0.mk (fun L W h => ⟨h.cell (b := B) (cs := #[.int .i64 j.u, .slice Ej j.after.length mj, .int .i64 j.ap, .int .i64 j.den]) (t := 26) (by simp) 0, h.cell (b := B) (cs := #[.int .i64 j.u, .slice Ej j.after.length mj, .int .i64 j.ap, .int .i64 j.den]) (t := 26) (by simp) 1, h.cell (b := B) (cs := #[.int .i64 j.u, .slice Ej j.after.length mj, .int .i64 j.ap, .int .i64 j.den]) (t := 26) (by simp) 2, h.cell (b := B) (cs := #[.int .i64 j.u, .slice Ej j.after.length mj, .int .i64 j.ap, .int .i64 j.den]) (t := 26) (by simp) 3, h.cell (b := Ba) (cs := #[.int .i64 a.u, .slice Ea a.after.length ma, .int .i64 a.ap, .int .i64 a.den]) (t := 26) (by simp) 0, h.cell (b := Ba) (cs := #[.int .i64 a.u, .slice Ea a.after.length ma, .int .i64 a.ap, .int .i64 a.den]) (t := 26) (by simp) 1, h.cell (b := Ba) (cs := #[.int .i64 a.u, .slice Ea a.after.length ma, .int .i64 a.ap, .int .i64 a.den]) (t := 26) (by simp) 2, h.cell (b := Ba) (cs := #[.int .i64 a.u, .slice Ea a.after.length ma, .int .i64 a.ap, .int .i64 a.den]) (t := 26) (by simp) 3, h.cell (b := w.heap.size + 1 + 1) (cs := #[.int .i64 z0, .int .i64 z1, .int .i64 z2, .int .i64 z3]) (t := 22) (by simp) 0, h.cell (b := w.heap.size + 1 + 1) (cs := #[.int .i64 z0, .int .i64 z1, .int .i64 z2, .int .i64 z3]) (t := 22) (by simp) 1, h.cell (b := w.heap.size + 1 + 1) (cs := #[.int .i64 z0, .int .i64 z1, .int .i64 z2, .int .i64 z3]) (t := 22) (by simp) 2, h.cell (b := w.heap.size + 1 + 1) (cs := #[.int .i64 z0, .int .i64 z1, .int .i64 z2, .int .i64 z3]) (t := 22) (by simp) 3⟩)
              refine wp_region_held_drew (S := (fun W => W.cell? ⟨B, 0, none⟩ = some (.int .i64 j.u) ∧ W.cell? ⟨B, 1, none⟩ = some (.slice Ej j.after.length mj) ∧ W.cell? ⟨B, 2, none⟩ = some (.int .i64 j.ap) ∧ W.cell? ⟨B, 3, none⟩ = some (.int .i64 j.den) ∧ W.cell? ⟨Ba, 0, none⟩ = some (.int .i64 a.u) ∧ W.cell? ⟨Ba, 1, none⟩ = some (.slice Ea a.after.length ma) ∧ W.cell? ⟨Ba, 2, none⟩ = some (.int .i64 a.ap) ∧ W.cell? ⟨Ba, 3, none⟩ = some (.int .i64 a.den) ∧ W.cell? ⟨w.heap.size + 1 + 1, 0, none⟩ = some (.int .i64 z0) ∧ W.cell? ⟨w.heap.size + 1 + 1, 1, none⟩ = some (.int .i64 z1) ∧ W.cell? ⟨w.heap.size + 1 + 1, 2, none⟩ = some (.int .i64 z2) ∧ W.cell? ⟨w.heap.size + 1 + 1, 3, none⟩ = some (.int .i64 z3))) (by kernel_rfl) (by (try dsimp only); (with_reducible exact K.out _ _ SZ.out)) (fun hHeld => ?_)
              first | refine reg_tk 0 ?_ | refine reg_sk 0 ?_ | fail
              (try simp only [Act.put, List.setIfInBounds_toArray, List.set_cons_zero, List.set_cons_succ])
              first | refine reg_tk 1 ?_ | refine reg_sk 1 ?_ | fail
              (try simp only [Act.put, List.setIfInBounds_toArray, List.set_cons_zero, List.set_cons_succ])
              first | refine reg_tk 2 ?_ | refine reg_sk 2 ?_ | fail
              (try simp only [Act.put, List.setIfInBounds_toArray, List.set_cons_zero, List.set_cons_succ])
              first | refine reg_tk 3 ?_ | refine reg_sk 3 ?_ | fail
              (try simp only [Act.put, List.setIfInBounds_toArray, List.set_cons_zero, List.set_cons_succ])
              first | refine reg_tk 4 ?_ | refine reg_sk 4 ?_ | fail
              (try simp only [Act.put, List.setIfInBounds_toArray, List.set_cons_zero, List.set_cons_succ])
              first | refine reg_tk 5 ?_ | refine reg_sk 5 ?_ | fail
              (try simp only [Act.put, List.setIfInBounds_toArray, List.set_cons_zero, List.set_cons_succ])
              first | refine reg_tk 6 ?_ | refine reg_sk 6 ?_ | fail
              (try simp only [Act.put, List.setIfInBounds_toArray, List.set_cons_zero, List.set_cons_succ])
              first | refine reg_sk 7 ?_ | (refine reg_one 7 (fun KK_ hKK_ => ?_); go_simp; (have G_ := SZ; clear G_; go_at_call 24; apply Calls.mono; with_reducible apply allows_st (w := w) a; exact SZ.out; (first | assumption | simp); (first | assumption | simp); (first | assumption | simp); (first | assumption | simp); rintro e WR ⟨rfl, h1_⟩; rw [t1]; have SZ := Aside0.mk h1_; clear h1_); refine hKK_.out _ _ (by (try dsimp only); (with_reducible exact K.out _ _ SZ.out)) (fun hHeld => ?_); clear hKK_ KK_) | fail
              (try simp only [Act.put, List.setIfInBounds_toArray, List.set_cons_zero, List.set_cons_succ])
              first | refine reg_tk 8 ?_ | refine reg_sk 8 ?_ | fail
              (try simp only [Act.put, List.setIfInBounds_toArray, List.set_cons_zero, List.set_cons_succ])
              first | refine reg_tk 9 ?_ | refine reg_sk 9 ?_ | fail
              (try simp only [Act.put, List.setIfInBounds_toArray, List.set_cons_zero, List.set_cons_succ])
              first | refine reg_tk 10 ?_ | refine reg_sk 10 ?_ | fail
              (try simp only [Act.put, List.setIfInBounds_toArray, List.set_cons_zero, List.set_cons_succ])
              first | refine reg_tk 11 ?_ | refine reg_sk 11 ?_ | fail
              (try simp only [Act.put, List.setIfInBounds_toArray, List.set_cons_zero, List.set_cons_succ])
              first | refine reg_tk 12 ?_ | refine reg_sk 12 ?_ | fail
              (try simp only [Act.put, List.setIfInBounds_toArray, List.set_cons_zero, List.set_cons_succ])
              first | refine reg_tk 13 ?_ | refine reg_sk 13 ?_ | fail
              (try simp only [Act.put, List.setIfInBounds_toArray, List.set_cons_zero, List.set_cons_succ])
              first | refine reg_tk 14 ?_ | refine reg_sk 14 ?_ | fail
              (try simp only [Act.put, List.setIfInBounds_toArray, List.set_cons_zero, List.set_cons_succ])
              first | refine reg_tk 17 ?_ | refine reg_sk 17 ?_ | fail
              (try simp only [Act.put, List.setIfInBounds_toArray, List.set_cons_zero, List.set_cons_succ])
              first | refine reg_tk 18 ?_ | refine reg_sk 18 ?_ | fail
              (try simp only [Act.put, List.setIfInBounds_toArray, List.set_cons_zero, List.set_cons_succ])
              first | refine reg_sk 15 ?_ | (refine reg_one 15 (fun KK_ hKK_ => ?_); go_simp; (have G_ := SZ; clear G_; go_at_call 27; apply Calls.mono; apply pick_st z3 _ q1 hq1; rintro e WR ⟨rfl, hd_⟩; have SZ := Aside0.mk (SZ.out.step hd_.below); clear hd_); refine hKK_.out _ _ (by (try dsimp only); (with_reducible exact K.out _ _ SZ.out)) (fun hHeld => ?_); clear hKK_ KK_) | fail
              (try simp only [Act.put, List.setIfInBounds_toArray, List.set_cons_zero, List.set_cons_succ])
              first | refine reg_tk 16 ?_ | refine reg_sk 16 ?_ | fail
              (try simp only [Act.put, List.setIfInBounds_toArray, List.set_cons_zero, List.set_cons_succ])
              first | refine reg_sk 19 ?_ | (refine reg_one 19 (fun KK_ hKK_ => ?_); go_simp; (have G_ := SZ; clear G_; go_at_call 24; apply Calls.mono; with_reducible apply allows_st (w := w) j; exact SZ.out; (first | assumption | simp); (first | assumption | simp); (first | assumption | simp); (first | assumption | simp); rintro e WR ⟨rfl, h1_⟩; rw [t2]; have SZ := Aside0.mk h1_; clear h1_); refine hKK_.out _ _ (by (try dsimp only); (with_reducible exact K.out _ _ SZ.out)) (fun hHeld => ?_); clear hKK_ KK_) | fail
              (try simp only [Act.put, List.setIfInBounds_toArray, List.set_cons_zero, List.set_cons_succ])
              first | refine reg_tk 20 ?_ | refine reg_sk 20 ?_ | fail
              (try simp only [Act.put, List.setIfInBounds_toArray, List.set_cons_zero, List.set_cons_succ])
              first | refine reg_tk 21 ?_ | refine reg_sk 21 ?_ | fail
              (try simp only [Act.put, List.setIfInBounds_toArray, List.set_cons_zero, List.set_cons_succ])
              first | refine reg_tk 22 ?_ | refine reg_sk 22 ?_ | fail
              (try simp only [Act.put, List.setIfInBounds_toArray, List.set_cons_zero, List.set_cons_succ])
              first | refine reg_tk 23 ?_ | refine reg_sk 23 ?_ | fail
              (try simp only [Act.put, List.setIfInBounds_toArray, List.set_cons_zero, List.set_cons_succ])
              first | refine reg_tk 24 ?_ | refine reg_sk 24 ?_ | fail
              (try simp only [Act.put, List.setIfInBounds_toArray, List.set_cons_zero, List.set_cons_succ])
              first | refine reg_tk 25 ?_ | refine reg_sk 25 ?_ | fail
              (try simp only [Act.put, List.setIfInBounds_toArray, List.set_cons_zero, List.set_cons_succ])
              first | refine reg_tk 26 ?_ | refine reg_sk 26 ?_ | fail
              (try simp only [Act.put, List.setIfInBounds_toArray, List.set_cons_zero, List.set_cons_succ])
              first | refine reg_sk 27 ?_ | (refine reg_one 27 (fun KK_ hKK_ => ?_); go_simp; (have G_ := SZ; clear G_; go_at_call 24; apply Calls.mono; with_reducible apply allows_st (w := w) j; exact SZ.out; (first | assumption | simp); (first | assumption | simp); (first | assumption | simp); (first | assumption | simp); rintro e WR ⟨rfl, h1_⟩; rw [t3]; have SZ := Aside0.mk h1_; clear h1_); refine hKK_.out _ _ (by (try dsimp only); (with_reducible exact K.out _ _ SZ.out)) (fun hHeld => ?_); clear hKK_ KK_) | fail
              (try simp only [Act.put, List.setIfInBounds_toArray, List.set_cons_zero, List.set_cons_succ])
              first | refine reg_tk 28 ?_ | refine reg_sk 28 ?_ | fail
              (try simp only [Act.put, List.setIfInBounds_toArray, List.set_cons_zero, List.set_cons_succ])
              first | refine reg_tk 29 ?_ | refine reg_sk 29 ?_ | fail
              (try simp only [Act.put, List.setIfInBounds_toArray, List.set_cons_zero, List.set_cons_succ])
              first | refine reg_tk 30 ?_ | refine reg_sk 30 ?_ | fail
              (try simp only [Act.put, List.setIfInBounds_toArray, List.set_cons_zero, List.set_cons_succ])
              first | refine reg_tk 31 ?_ | refine reg_sk 31 ?_ | fail
              (try simp only [Act.put, List.setIfInBounds_toArray, List.set_cons_zero, List.set_cons_succ])
              first | refine reg_tk 32 ?_ | refine reg_sk 32 ?_ | fail
              (try simp only [Act.put, List.setIfInBounds_toArray, List.set_cons_zero, List.set_cons_succ])
              first | refine reg_tk 33 ?_ | refine reg_sk 33 ?_ | fail
              (try simp only [Act.put, List.setIfInBounds_toArray, List.set_cons_zero, List.set_cons_succ])
              first | refine reg_tk 34 ?_ | refine reg_sk 34 ?_ | fail
              (try simp only [Act.put, List.setIfInBounds_toArray, List.set_cons_zero, List.set_cons_succ])
              first | refine reg_tk 35 ?_ | refine reg_sk 35 ?_ | fail
              (try simp only [Act.put, List.setIfInBounds_toArray, List.set_cons_zero, List.set_cons_succ])
              first | refine reg_tk 36 ?_ | refine reg_sk 36 ?_ | fail
              (try simp only [Act.put, List.setIfInBounds_toArray, List.set_cons_zero, List.set_cons_succ])
              first | refine reg_sk 37 ?_ | (refine reg_one 37 (fun KK_ hKK_ => ?_); go_simp; (have G_ := SZ; clear G_; go_at_call 27; apply Calls.mono; apply pick_st z3 _ q2 hq2; rintro e WR ⟨rfl, hd_⟩; have SZ := Aside0.mk (SZ.out.step hd_.below); clear hd_); refine hKK_.out _ _ (by (try dsimp only); (with_reducible exact K.out _ _ SZ.out)) (fun hHeld => ?_); clear hKK_ KK_) | fail
              (try simp only [Act.put, List.setIfInBounds_toArray, List.set_cons_zero, List.set_cons_succ])
              first | refine reg_tk 38 ?_ | refine reg_sk 38 ?_ | fail
              (try simp only [Act.put, List.setIfInBounds_toArray, List.set_cons_zero, List.set_cons_succ])
              first | refine reg_sk 39 ?_ | (refine reg_one 39 (fun KK_ hKK_ => ?_); go_simp; (have G_ := SZ; clear G_; go_at_call 24; apply Calls.mono; with_reducible apply allows_st (w := w) j; exact SZ.out; (first | assumption | simp); (first | assumption | simp); (first | assumption | simp); (first | assumption | simp); rintro e WR ⟨rfl, h1_⟩; rw [t4]; have SZ := Aside0.mk h1_; clear h1_); refine hKK_.out _ _ (by (try dsimp only); (with_reducible exact K.out _ _ SZ.out)) (fun hHeld => ?_); clear hKK_ KK_) | fail
              (try simp only [Act.put, List.setIfInBounds_toArray, List.set_cons_zero, List.set_cons_succ])
              first | refine reg_tk 40 ?_ | refine reg_sk 40 ?_ | fail
              (try simp only [Act.put, List.setIfInBounds_toArray, List.set_cons_zero, List.set_cons_succ])
              first | refine reg_tk 41 ?_ | refine reg_sk 41 ?_ | fail
              (try simp only [Act.put, List.setIfInBounds_toArray, List.set_cons_zero, List.set_cons_succ])
              refine wpAnyH_done (by kernel_rfl) ?_ _
              go_wp2
              go_roundg (2 - i2)
              case rel => exact ⟨i2 + 1, rfl, by simp, ⟨⟨by omega, by omega, SZ.out⟩⟩⟩
              case measure => omega
          · obtain rfl : i2 = 2 := by omega
            go_wp2
            go_roundg (4 - i1)
            case rel => exact ⟨i1 + 1, rfl, by simp, ⟨⟨by omega, by omega, R2.out.tail⟩⟩⟩
            case measure => omega
      · obtain rfl : i1 = 4 := by omega
        go_wp2
        go_ret
        exact ⟨rfl, R1.out.bel⟩
end Go.Proofs.Ytngckofkbkhomaa
