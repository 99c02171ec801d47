/- The walk of the law LabelJoinAllows: it tells true. -/
import Derived.Test.YtngckofkbkhomaaHLabSane
import Derived.Deep.RegionHeld3
import Derived.Test.YtngckofkbkhomaaHLabTab2
namespace Go.Proofs.Ytngckofkbkhomaa
open Go.RowKit Go.Lib Go.Proofs.Ytngckofkbkhomaa.PBase Go.Proofs.YtngckofkbkhomaaW.PrintWords Go.Proofs.YtngckofkbkhomaaW.PrintLast Go.Proofs.YtngckofkbkhomaaW.PrintMore
set_option linter.unusedVariables false
set_option linter.unusedSimpArgs false
set_option maxHeartbeats 64000000 in
set_option maxRecDepth 100000 in
theorem labeljoinallows_calls (w : World) (x0 x1 x2 x3 y0 y1 y2 y3 z0 z1 z2 z3 : Int) (hx : Rng x0 ∧ Rng x2 ∧ Rng x3) (hy : Rng y0 ∧ Rng y2 ∧ Rng y3) (hz : Rng z0 ∧ Rng z2 ∧ Rng z3) :
    Calls Try.prog 8 #[.agg #[.int .i64 x0, .int .i64 x1, .int .i64 x2, .int .i64 x3], .agg #[.int .i64 y0, .int .i64 y1, .int .i64 y2, .int .i64 y3], .agg #[.int .i64 z0, .int .i64 z1, .int .i64 z2, .int .i64 z3]] w fun e w' => e = .returned (.bool true) ∧ Below w.heap.size w w' := by
  have hu := Try.underlying26
  have hu2 := Try.underlying22
  obtain ⟨hx0, hx2, hx3⟩ := hx
  obtain ⟨hy0, hy2, hy3⟩ := hy
  obtain ⟨hz0, hz2, hz3⟩ := hz
  have S0 := Aside0.mk (St.start w)
  obtain ⟨a, ha⟩ : ∃ a, mk x0 x1 x2 x3 = a := ⟨_, rfl⟩
  have oa := Aside0.mk (ha ▸ mk_ok x0 x1 x2 x3 : Lab.Ok a)
  obtain ⟨b, hb⟩ : ∃ b, mk y0 y1 y2 y3 = b := ⟨_, rfl⟩
  have ob := Aside0.mk (hb ▸ mk_ok y0 y1 y2 y3 : Lab.Ok b)
  obtain ⟨j, hj⟩ : ∃ j, Lab.join a b = j := ⟨_, rfl⟩
  have oj := Aside0.mk (hj ▸ Lab.ok_join oa.out ob.out : Lab.Ok j)
  go_enter Try.func8, Try.ntmps8
  go_wp2_with (first | (have G_ := S3; clear G_; go_at_call 22; apply Calls.mono; apply join_st (w := w) a b; apply St.box; exact S3.out; (first | assumption | simp); (first | assumption | simp); (first | assumption | simp); (first | assumption | simp); rintro e WS4 ⟨Ej, mj, rfl, hmj, h1_⟩; rw [hj] at hmj h1_ ⊢; (try simp only [World.size_alloc] at h1_); have S4 := Aside0.mk h1_; clear h1_; clear zc0 zc1 zc2 zc3 ac0 ac1 ac2 ac3 zn zm an am; have zc0 := S4.out.cell (b := w.heap.size + 1 + 1) (cs := #[.int .i64 z0, .int .i64 z1, .int .i64 z2, .int .i64 z3]) (t := 22) (by simp) 0; have zc1 := S4.out.cell (b := w.heap.size + 1 + 1) (cs := #[.int .i64 z0, .int .i64 z1, .int .i64 z2, .int .i64 z3]) (t := 22) (by simp) 1; have zc2 := S4.out.cell (b := w.heap.size + 1 + 1) (cs := #[.int .i64 z0, .int .i64 z1, .int .i64 z2, .int .i64 z3]) (t := 22) (by simp) 2; have zc3 := S4.out.cell (b := w.heap.size + 1 + 1) (cs := #[.int .i64 z0, .int .i64 z1, .int .i64 z2, .int .i64 z3]) (t := 22) (by simp) 3; have zn := World.new_ne WS4 ⟨w.heap.size + 1 + 1, 0, none⟩ zc0; have zm := fun (o : Obj) (j : Nat) => World.cell?_alloc_lt WS4 o ⟨w.heap.size + 1 + 1, j, none⟩ (World.block_lt_of_cell? WS4 ⟨w.heap.size + 1 + 1, 0, none⟩ zc0); have ac0 := S4.out.cell (b := WS2.heap.size) (cs := #[.int .i64 a.u, .slice Ea a.after.length ma, .int .i64 a.ap, .int .i64 a.den]) (t := 26) (by simp) 0; have ac1 := S4.out.cell (b := WS2.heap.size) (cs := #[.int .i64 a.u, .slice Ea a.after.length ma, .int .i64 a.ap, .int .i64 a.den]) (t := 26) (by simp) 1; have ac2 := S4.out.cell (b := WS2.heap.size) (cs := #[.int .i64 a.u, .slice Ea a.after.length ma, .int .i64 a.ap, .int .i64 a.den]) (t := 26) (by simp) 2; have ac3 := S4.out.cell (b := WS2.heap.size) (cs := #[.int .i64 a.u, .slice Ea a.after.length ma, .int .i64 a.ap, .int .i64 a.den]) (t := 26) (by simp) 3; have an := World.new_ne WS4 ⟨WS2.heap.size, 0, none⟩ ac0; have am := fun (o : Obj) (j : Nat) => World.cell?_alloc_lt WS4 o ⟨WS2.heap.size, j, none⟩ (World.block_lt_of_cell? WS4 ⟨WS2.heap.size, 0, none⟩ ac0); have bc0 := S4.out.cell (b := WS3.heap.size) (cs := #[.int .i64 b.u, .slice Eb b.after.length mb, .int .i64 b.ap, .int .i64 b.den]) (t := 26) (by simp) 0; have bc1 := S4.out.cell (b := WS3.heap.size) (cs := #[.int .i64 b.u, .slice Eb b.after.length mb, .int .i64 b.ap, .int .i64 b.den]) (t := 26) (by simp) 1; have bc2 := S4.out.cell (b := WS3.heap.size) (cs := #[.int .i64 b.u, .slice Eb b.after.length mb, .int .i64 b.ap, .int .i64 b.den]) (t := 26) (by simp) 2; have bc3 := S4.out.cell (b := WS3.heap.size) (cs := #[.int .i64 b.u, .slice Eb b.after.length mb, .int .i64 b.ap, .int .i64 b.den]) (t := 26) (by simp) 3; have bn := World.new_ne WS4 ⟨WS3.heap.size, 0, none⟩ bc0; have bm := fun (o : Obj) (j : Nat) => World.cell?_alloc_lt WS4 o ⟨WS3.heap.size, j, none⟩ (World.block_lt_of_cell? WS4 ⟨WS3.heap.size, 0, none⟩ bc0)) | (have G_ := S2; clear G_; go_at_call 14; apply Calls.mono; apply make_st (w := w) y0 y1 y2 y3; apply St.box; exact S2.out; (first | assumption | simp); (first | assumption | simp); (first | assumption | simp); rintro e WS3 ⟨Eb, mb, rfl, hmb, h1_⟩; rw [hb] at hmb h1_ ⊢; (try simp only [World.size_alloc] at h1_); have S3 := Aside0.mk h1_; clear h1_; clear yc0 yc1 yc2 yc3 zc0 zc1 zc2 zc3 yn ym zn zm; have zc0 := S3.out.cell (b := w.heap.size + 1 + 1) (cs := #[.int .i64 z0, .int .i64 z1, .int .i64 z2, .int .i64 z3]) (t := 22) (by simp) 0; have zc1 := S3.out.cell (b := w.heap.size + 1 + 1) (cs := #[.int .i64 z0, .int .i64 z1, .int .i64 z2, .int .i64 z3]) (t := 22) (by simp) 1; have zc2 := S3.out.cell (b := w.heap.size + 1 + 1) (cs := #[.int .i64 z0, .int .i64 z1, .int .i64 z2, .int .i64 z3]) (t := 22) (by simp) 2; have zc3 := S3.out.cell (b := w.heap.size + 1 + 1) (cs := #[.int .i64 z0, .int .i64 z1, .int .i64 z2, .int .i64 z3]) (t := 22) (by simp) 3; have zn := World.new_ne WS3 ⟨w.heap.size + 1 + 1, 0, none⟩ zc0; have zm := fun (o : Obj) (j : Nat) => World.cell?_alloc_lt WS3 o ⟨w.heap.size + 1 + 1, j, none⟩ (World.block_lt_of_cell? WS3 ⟨w.heap.size + 1 + 1, 0, none⟩ zc0); have ac0 := S3.out.cell (b := WS2.heap.size) (cs := #[.int .i64 a.u, .slice Ea a.after.length ma, .int .i64 a.ap, .int .i64 a.den]) (t := 26) (by simp) 0; have ac1 := S3.out.cell (b := WS2.heap.size) (cs := #[.int .i64 a.u, .slice Ea a.after.length ma, .int .i64 a.ap, .int .i64 a.den]) (t := 26) (by simp) 1; have ac2 := S3.out.cell (b := WS2.heap.size) (cs := #[.int .i64 a.u, .slice Ea a.after.length ma, .int .i64 a.ap, .int .i64 a.den]) (t := 26) (by simp) 2; have ac3 := S3.out.cell (b := WS2.heap.size) (cs := #[.int .i64 a.u, .slice Ea a.after.length ma, .int .i64 a.ap, .int .i64 a.den]) (t := 26) (by simp) 3; have an := World.new_ne WS3 ⟨WS2.heap.size, 0, none⟩ ac0; have am := fun (o : Obj) (j : Nat) => World.cell?_alloc_lt WS3 o ⟨WS2.heap.size, j, none⟩ (World.block_lt_of_cell? WS3 ⟨WS2.heap.size, 0, none⟩ ac0)) | (have G_ := S1; clear G_; go_at_call 14; apply Calls.mono; apply make_st (w := w) x0 x1 x2 x3; exact S1.out; (first | assumption | simp); (first | assumption | simp); (first | assumption | simp); rintro e WS2 ⟨Ea, ma, rfl, hma, h1_⟩; rw [ha] at hma h1_ ⊢; (try simp only [World.size_alloc] at h1_); have S2 := Aside0.mk h1_; clear h1_; clear xc0 xc1 xc2 xc3 yc0 yc1 yc2 yc3 zc0 zc1 zc2 zc3 xn xm yn ym zn zm; have yc0 := S2.out.cell (b := w.heap.size + 1) (cs := #[.int .i64 y0, .int .i64 y1, .int .i64 y2, .int .i64 y3]) (t := 22) (by simp) 0; have yc1 := S2.out.cell (b := w.heap.size + 1) (cs := #[.int .i64 y0, .int .i64 y1, .int .i64 y2, .int .i64 y3]) (t := 22) (by simp) 1; have yc2 := S2.out.cell (b := w.heap.size + 1) (cs := #[.int .i64 y0, .int .i64 y1, .int .i64 y2, .int .i64 y3]) (t := 22) (by simp) 2; have yc3 := S2.out.cell (b := w.heap.size + 1) (cs := #[.int .i64 y0, .int .i64 y1, .int .i64 y2, .int .i64 y3]) (t := 22) (by simp) 3; have yn := World.new_ne WS2 ⟨w.heap.size + 1, 0, none⟩ yc0; have ym := fun (o : Obj) (j : Nat) => World.cell?_alloc_lt WS2 o ⟨w.heap.size + 1, j, none⟩ (World.block_lt_of_cell? WS2 ⟨w.heap.size + 1, 0, none⟩ yc0); have zc0 := S2.out.cell (b := w.heap.size + 1 + 1) (cs := #[.int .i64 z0, .int .i64 z1, .int .i64 z2, .int .i64 z3]) (t := 22) (by simp) 0; have zc1 := S2.out.cell (b := w.heap.size + 1 + 1) (cs := #[.int .i64 z0, .int .i64 z1, .int .i64 z2, .int .i64 z3]) (t := 22) (by simp) 1; have zc2 := S2.out.cell (b := w.heap.size + 1 + 1) (cs := #[.int .i64 z0, .int .i64 z1, .int .i64 z2, .int .i64 z3]) (t := 22) (by simp) 2; have zc3 := S2.out.cell (b := w.heap.size + 1 + 1) (cs := #[.int .i64 z0, .int .i64 z1, .int .i64 z2, .int .i64 z3]) (t := 22) (by simp) 3; have zn := World.new_ne WS2 ⟨w.heap.size + 1 + 1, 0, none⟩ zc0; have zm := fun (o : Obj) (j : Nat) => World.cell?_alloc_lt WS2 o ⟨w.heap.size + 1 + 1, j, none⟩ (World.block_lt_of_cell? WS2 ⟨w.heap.size + 1 + 1, 0, none⟩ zc0)) | (have G_ := S0; clear G_; go_at_call 13; apply Calls.mono; apply sane_st (w := w); apply St.box; apply St.box; apply St.box; exact S0.out; rintro e WS1 ⟨rfl, h1_⟩; (try simp only [World.size_alloc] at h1_); have S1 := Aside0.mk h1_; clear h1_; have xc0 := S1.out.cell (b := w.heap.size) (cs := #[.int .i64 x0, .int .i64 x1, .int .i64 x2, .int .i64 x3]) (t := 22) (by simp) 0; have xc1 := S1.out.cell (b := w.heap.size) (cs := #[.int .i64 x0, .int .i64 x1, .int .i64 x2, .int .i64 x3]) (t := 22) (by simp) 1; have xc2 := S1.out.cell (b := w.heap.size) (cs := #[.int .i64 x0, .int .i64 x1, .int .i64 x2, .int .i64 x3]) (t := 22) (by simp) 2; have xc3 := S1.out.cell (b := w.heap.size) (cs := #[.int .i64 x0, .int .i64 x1, .int .i64 x2, .int .i64 x3]) (t := 22) (by simp) 3; have xn := World.new_ne WS1 ⟨w.heap.size, 0, none⟩ xc0; have xm := fun (o : Obj) (j : Nat) => World.cell?_alloc_lt WS1 o ⟨w.heap.size, j, none⟩ (World.block_lt_of_cell? WS1 ⟨w.heap.size, 0, none⟩ xc0); have yc0 := S1.out.cell (b := w.heap.size + 1) (cs := #[.int .i64 y0, .int .i64 y1, .int .i64 y2, .int .i64 y3]) (t := 22) (by simp) 0; have yc1 := S1.out.cell (b := w.heap.size + 1) (cs := #[.int .i64 y0, .int .i64 y1, .int .i64 y2, .int .i64 y3]) (t := 22) (by simp) 1; have yc2 := S1.out.cell (b := w.heap.size + 1) (cs := #[.int .i64 y0, .int .i64 y1, .int .i64 y2, .int .i64 y3]) (t := 22) (by simp) 2; have yc3 := S1.out.cell (b := w.heap.size + 1) (cs := #[.int .i64 y0, .int .i64 y1, .int .i64 y2, .int .i64 y3]) (t := 22) (by simp) 3; have yn := World.new_ne WS1 ⟨w.heap.size + 1, 0, none⟩ yc0; have ym := fun (o : Obj) (j : Nat) => World.cell?_alloc_lt WS1 o ⟨w.heap.size + 1, j, none⟩ (World.block_lt_of_cell? WS1 ⟨w.heap.size + 1, 0, none⟩ yc0); have zc0 := S1.out.cell (b := w.heap.size + 1 + 1) (cs := #[.int .i64 z0, .int .i64 z1, .int .i64 z2, .int .i64 z3]) (t := 22) (by simp) 0; have zc1 := S1.out.cell (b := w.heap.size + 1 + 1) (cs := #[.int .i64 z0, .int .i64 z1, .int .i64 z2, .int .i64 z3]) (t := 22) (by simp) 1; have zc2 := S1.out.cell (b := w.heap.size + 1 + 1) (cs := #[.int .i64 z0, .int .i64 z1, .int .i64 z2, .int .i64 z3]) (t := 22) (by simp) 2; have zc3 := S1.out.cell (b := w.heap.size + 1 + 1) (cs := #[.int .i64 z0, .int .i64 z1, .int .i64 z2, .int .i64 z3]) (t := 22) (by simp) 3; have zn := World.new_ne WS1 ⟨w.heap.size + 1 + 1, 0, none⟩ zc0; have zm := fun (o : Obj) (j : Nat) => World.cell?_alloc_lt WS1 o ⟨w.heap.size + 1 + 1, j, none⟩ (World.block_lt_of_cell? WS1 ⟨w.heap.size + 1 + 1, 0, none⟩ zc0)))
  have SB := St.box S4.out #[.int .i64 j.u, .slice Ej j.after.length mj, .int .i64 j.ap, .int .i64 j.den] 26
  clear S0 S1 S2 S3 S4
  clear zc0 zc1 zc2 zc3 ac0 ac1 ac2 ac3 bc0 bc1 bc2 bc3 zn zm an am bn bm
  generalize WS4.alloc (.cells #[.int .i64 j.u, .slice Ej j.after.length mj, .int .i64 j.ap, .int .i64 j.den] 26) = WY at SB ⊢
  have SY : Aside0 (St w [(Ej, j.after), (Eb, b.after), (Ea, a.after)] [(WS4.heap.size, #[.int .i64 j.u, .slice Ej j.after.length mj, .int .i64 j.ap, .int .i64 j.den], 26), (WS3.heap.size, #[.int .i64 b.u, .slice Eb b.after.length mb, .int .i64 b.ap, .int .i64 b.den], 26), (WS2.heap.size, #[.int .i64 a.u, .slice Ea a.after.length ma, .int .i64 a.ap, .int .i64 a.den], 26), (w.heap.size + 1 + 1, #[.int .i64 z0, .int .i64 z1, .int .i64 z2, .int .i64 z3], 22)] WY) := Aside0.mk (SB.sub (fun p hp => hp) (by simp))
  clear SB
  have hra : (Ea, a.after) ∈ [(Ej, j.after), (Eb, b.after), (Ea, a.after)] := by simp
  have hrb : (Eb, b.after) ∈ [(Ej, j.after), (Eb, b.after), (Ea, a.after)] := by simp
  have hrj : (Ej, j.after) ∈ [(Ej, j.after), (Eb, b.after), (Ea, a.after)] := by simp
  generalize ([(Ej, j.after), (Eb, b.after), (Ea, a.after)] : List (Option Addr × List Int)) = LL at SY hra hrb hrj
  generalize hbj : WS4.heap.size = Bj at SY ⊢
  generalize hbb : WS3.heap.size = Bb at SY ⊢
  generalize hba : WS2.heap.size = Ba at SY ⊢
  have hwj : IntKind.i64.wrap (j.u - 1) = j.u - 1 := by
    have h1 := oj.out.1
    have h2 := oj.out.2.1
    rw [IntKind.wrap_i64]
    omega
  go_wp2
  go_loopg [7, 11] 5 (fun gk v7 v11 w' => ∃ i1 : Nat, v7 = .bool true ∧ v11 = .int .i64 i1 ∧ Aside0 (i1 ≤ 4 ∧ gk = 4 - i1 + 1 ∧ St w LL [(Bj, #[.int .i64 j.u, .slice Ej j.after.length mj, .int .i64 j.ap, .int .i64 j.den], 26), (Bb, #[.int .i64 b.u, .slice Eb b.after.length mb, .int .i64 b.ap, .int .i64 b.den], 26), (Ba, #[.int .i64 a.u, .slice Ea a.after.length ma, .int .i64 a.ap, .int .i64 a.den], 26), (w.heap.size + 1 + 1, #[.int .i64 z0, .int .i64 z1, .int .i64 z2, .int .i64 z3], 22)] w'))
  case atStart => exact ⟨0, rfl, rfl, ⟨⟨by omega, by omega, SY.out⟩⟩⟩
  case round =>
    obtain ⟨i1, rfl, rfl, HI⟩ := hrel
    obtain ⟨hl1, hg1, SR⟩ := HI.out
    clear HI
    have R1 := Aside0.mk SR
    clear SR
    by_cases hi1 : i1 < 4
    · have hd1 : decide ((i1 : Int) < 4) = true := decide_eq_true (by omega)
      have jc0 := R1.out.cell (b := Bj) (cs := #[.int .i64 j.u, .slice Ej j.after.length mj, .int .i64 j.ap, .int .i64 j.den]) (t := 26) (by simp) 0
      have jc1 := R1.out.cell (b := Bj) (cs := #[.int .i64 j.u, .slice Ej j.after.length mj, .int .i64 j.ap, .int .i64 j.den]) (t := 26) (by simp) 1
      have jc2 := R1.out.cell (b := Bj) (cs := #[.int .i64 j.u, .slice Ej j.after.length mj, .int .i64 j.ap, .int .i64 j.den]) (t := 26) (by simp) 2
      have jc3 := R1.out.cell (b := Bj) (cs := #[.int .i64 j.u, .slice Ej j.after.length mj, .int .i64 j.ap, .int .i64 j.den]) (t := 26) (by simp) 3
      have bc0 := R1.out.cell (b := Bb) (cs := #[.int .i64 b.u, .slice Eb b.after.length mb, .int .i64 b.ap, .int .i64 b.den]) (t := 26) (by simp) 0
      have bc1 := R1.out.cell (b := Bb) (cs := #[.int .i64 b.u, .slice Eb b.after.length mb, .int .i64 b.ap, .int .i64 b.den]) (t := 26) (by simp) 1
      have bc2 := R1.out.cell (b := Bb) (cs := #[.int .i64 b.u, .slice Eb b.after.length mb, .int .i64 b.ap, .int .i64 b.den]) (t := 26) (by simp) 2
      have bc3 := R1.out.cell (b := Bb) (cs := #[.int .i64 b.u, .slice Eb b.after.length mb, .int .i64 b.ap, .int .i64 b.den]) (t := 26) (by simp) 3
      have ac0 := R1.out.cell (b := Ba) (cs := #[.int .i64 a.u, .slice Ea a.after.length ma, .int .i64 a.ap, .int .i64 a.den]) (t := 26) (by simp) 0
      have ac1 := R1.out.cell (b := Ba) (cs := #[.int .i64 a.u, .slice Ea a.after.length ma, .int .i64 a.ap, .int .i64 a.den]) (t := 26) (by simp) 1
      have ac2 := R1.out.cell (b := Ba) (cs := #[.int .i64 a.u, .slice Ea a.after.length ma, .int .i64 a.ap, .int .i64 a.den]) (t := 26) (by simp) 2
      have ac3 := R1.out.cell (b := Ba) (cs := #[.int .i64 a.u, .slice Ea a.after.length ma, .int .i64 a.ap, .int .i64 a.den]) (t := 26) (by simp) 3
      have zc0 := R1.out.cell (b := w.heap.size + 1 + 1) (cs := #[.int .i64 z0, .int .i64 z1, .int .i64 z2, .int .i64 z3]) (t := 22) (by simp) 0
      have zc1 := R1.out.cell (b := w.heap.size + 1 + 1) (cs := #[.int .i64 z0, .int .i64 z1, .int .i64 z2, .int .i64 z3]) (t := 22) (by simp) 1
      have zc2 := R1.out.cell (b := w.heap.size + 1 + 1) (cs := #[.int .i64 z0, .int .i64 z1, .int .i64 z2, .int .i64 z3]) (t := 22) (by simp) 2
      have zc3 := R1.out.cell (b := w.heap.size + 1 + 1) (cs := #[.int .i64 z0, .int .i64 z1, .int .i64 z2, .int .i64 z3]) (t := 22) (by simp) 3
      go_wp2
      have SB_ := St.box R1.out #[.int .i64 z0, .int .i64 a.u, .int .i64 b.u, .int .i64 j.u, .int .i64 (j.u - 1)] 3
      obtain ⟨N, hN⟩ : ∃ N, wr.heap.size = N := ⟨_, rfl⟩
      rw [hN] at SB_ ⊢
      generalize wr.alloc (.cells #[.int .i64 z0, .int .i64 a.u, .int .i64 b.u, .int .i64 j.u, .int .i64 (j.u - 1)] 3) = WN at SB_ ⊢
      have SN := Aside0.mk SB_
      clear SB_ hN jc0 jc1 jc2 jc3 bc0 bc1 bc2 bc3 ac0 ac1 ac2 ac3 zc0 zc1 zc2 zc3
      have TN : Aside0 (∀ i, i < 5 → ∃ n : Int, n ∈ [z0, a.u, b.u, j.u, j.u - 1] ∧ ∀ (L' : List (Option Addr × List Int)) (M' : List (Nat × Array Value × TypeId)) (W' : World), (N, (#[.int .i64 z0, .int .i64 a.u, .int .i64 b.u, .int .i64 j.u, .int .i64 (j.u - 1)] : Array Value), 3) ∈ M' → St w L' M' W' → W'.cell? ⟨N, i, none⟩ = some (.int .i64 n)) := Aside0.mk (fun i hi => ints_at [z0, a.u, b.u, j.u, j.u - 1] rfl i hi)
      generalize (#[.int .i64 z0, .int .i64 a.u, .int .i64 b.u, .int .i64 j.u, .int .i64 (j.u - 1)] : Array Value) = CN at SN TN
      go_loopg [7, 43] 6 (fun gk v7 v43 w' => ∃ i2 : Nat, v7 = .bool true ∧ v43 = .int .i64 i2 ∧ Aside0 (i2 ≤ 5 ∧ gk = 5 - i2 + 1 ∧ St w LL [(N, CN, 3), (Bj, #[.int .i64 j.u, .slice Ej j.after.length mj, .int .i64 j.ap, .int .i64 j.den], 26), (Bb, #[.int .i64 b.u, .slice Eb b.after.length mb, .int .i64 b.ap, .int .i64 b.den], 26), (Ba, #[.int .i64 a.u, .slice Ea a.after.length ma, .int .i64 a.ap, .int .i64 a.den], 26), (w.heap.size + 1 + 1, #[.int .i64 z0, .int .i64 z1, .int .i64 z2, .int .i64 z3], 22)] w'))
      case atStart => exact ⟨0, rfl, rfl, ⟨⟨by omega, by omega, SN.out⟩⟩⟩
      case round =>
        obtain ⟨i2, rfl, rfl, HI⟩ := hrel
        obtain ⟨hl2, hg2, SR⟩ := HI.out
        clear HI
        have R2 := Aside0.mk SR
        clear SR
        by_cases hi2 : i2 < 5
        · have hd2 : decide ((i2 : Int) < 5) = true := decide_eq_true (by omega)
          obtain ⟨n0, hn0, hcn⟩ := TN.out i2 hi2
          have en := hcn _ _ _ (by simp) R2.out
          clear hcn
          have jc0 := R2.out.cell (b := Bj) (cs := #[.int .i64 j.u, .slice Ej j.after.length mj, .int .i64 j.ap, .int .i64 j.den]) (t := 26) (by simp) 0
          have jc1 := R2.out.cell (b := Bj) (cs := #[.int .i64 j.u, .slice Ej j.after.length mj, .int .i64 j.ap, .int .i64 j.den]) (t := 26) (by simp) 1
          have jc2 := R2.out.cell (b := Bj) (cs := #[.int .i64 j.u, .slice Ej j.after.length mj, .int .i64 j.ap, .int .i64 j.den]) (t := 26) (by simp) 2
          have jc3 := R2.out.cell (b := Bj) (cs := #[.int .i64 j.u, .slice Ej j.after.length mj, .int .i64 j.ap, .int .i64 j.den]) (t := 26) (by simp) 3
          have bc0 := R2.out.cell (b := Bb) (cs := #[.int .i64 b.u, .slice Eb b.after.length mb, .int .i64 b.ap, .int .i64 b.den]) (t := 26) (by simp) 0
          have bc1 := R2.out.cell (b := Bb) (cs := #[.int .i64 b.u, .slice Eb b.after.length mb, .int .i64 b.ap, .int .i64 b.den]) (t := 26) (by simp) 1
          have bc2 := R2.out.cell (b := Bb) (cs := #[.int .i64 b.u, .slice Eb b.after.length mb, .int .i64 b.ap, .int .i64 b.den]) (t := 26) (by simp) 2
          have bc3 := R2.out.cell (b := Bb) (cs := #[.int .i64 b.u, .slice Eb b.after.length mb, .int .i64 b.ap, .int .i64 b.den]) (t := 26) (by simp) 3
          have ac0 := R2.out.cell (b := Ba) (cs := #[.int .i64 a.u, .slice Ea a.after.length ma, .int .i64 a.ap, .int .i64 a.den]) (t := 26) (by simp) 0
          have ac1 := R2.out.cell (b := Ba) (cs := #[.int .i64 a.u, .slice Ea a.after.length ma, .int .i64 a.ap, .int .i64 a.den]) (t := 26) (by simp) 1
          have ac2 := R2.out.cell (b := Ba) (cs := #[.int .i64 a.u, .slice Ea a.after.length ma, .int .i64 a.ap, .int .i64 a.den]) (t := 26) (by simp) 2
          have ac3 := R2.out.cell (b := Ba) (cs := #[.int .i64 a.u, .slice Ea a.after.length ma, .int .i64 a.ap, .int .i64 a.den]) (t := 26) (by simp) 3
          have zc0 := R2.out.cell (b := w.heap.size + 1 + 1) (cs := #[.int .i64 z0, .int .i64 z1, .int .i64 z2, .int .i64 z3]) (t := 22) (by simp) 0
          have zc1 := R2.out.cell (b := w.heap.size + 1 + 1) (cs := #[.int .i64 z0, .int .i64 z1, .int .i64 z2, .int .i64 z3]) (t := 22) (by simp) 1
          have zc2 := R2.out.cell (b := w.heap.size + 1 + 1) (cs := #[.int .i64 z0, .int .i64 z1, .int .i64 z2, .int .i64 z3]) (t := 22) (by simp) 2
          have zc3 := R2.out.cell (b := w.heap.size + 1 + 1) (cs := #[.int .i64 z0, .int .i64 z1, .int .i64 z2, .int .i64 z3]) (t := 22) (by simp) 3
          go_wp2
          clear jc0 jc1 jc2 jc3 bc0 bc1 bc2 bc3 ac0 ac1 ac2 ac3 zc0 zc1 zc2 zc3
          clear en
          have SS := Aside0.mk (St.drew R2.out)
          have K : Aside0 (∀ (L : List (Option Addr × List Int)) (W : World), St w L [(N, CN, 3), (Bj, #[.int .i64 j.u, .slice Ej j.after.length mj, .int .i64 j.ap, .int .i64 j.den], 26), (Bb, #[.int .i64 b.u, .slice Eb b.after.length mb, .int .i64 b.ap, .int .i64 b.den], 26), (Ba, #[.int .i64 a.u, .slice Ea a.after.length ma, .int .i64 a.ap, .int .i64 a.den], 26), (w.heap.size + 1 + 1, #[.int .i64 z0, .int .i64 z1, .int .i64 z2, .int .i64 z3], 22)] W → W.cell? ⟨Bj, 0, none⟩ = some (.int .i64 j.u) ∧ W.cell? ⟨Bj, 1, none⟩ = some (.slice Ej j.after.length mj) ∧ W.cell? ⟨Bj, 2, none⟩ = some (.int .i64 j.ap) ∧ W.cell? ⟨Bj, 3, none⟩ = some (.int .i64 j.den) ∧ W.cell? ⟨Bb, 0, none⟩ = some (.int .i64 b.u) ∧ W.cell? ⟨Bb, 1, none⟩ = some (.slice Eb b.after.length mb) ∧ W.cell? ⟨Bb, 2, none⟩ = some (.int .i64 b.ap) ∧ W.cell? ⟨Bb, 3, none⟩ = some (.int .i64 b.den) ∧ W.cell? ⟨Ba, 0, none⟩ = some (.int .i64 a.u) ∧ W.cell? ⟨Ba, 1, none⟩ = some (.slice Ea a.after.length ma) ∧ W.cell? ⟨Ba, 2, none⟩ = some (.int .i64 a.ap) ∧ W.cell? ⟨Ba, 3, none⟩ = some (.int .i64 a.den) ∧ W.cell? ⟨w.heap.size + 1 + 1, 0, none⟩ = some (.int .i64 z0) ∧ W.cell? ⟨w.heap.size + 1 + 1, 1, none⟩ = some (.int .i64 z1) ∧ W.cell? ⟨w.heap.size + 1 + 1, 2, none⟩ = some (.int .i64 z2) ∧ W.cell? ⟨w.heap.size + 1 + 1, 3, none⟩ = some (.int .i64 z3)) := Aside0.mk (fun L W h => ⟨h.cell (b := Bj) (cs := #[.int .i64 j.u, .slice Ej j.after.length mj, .int .i64 j.ap, .int .i64 j.den]) (t := 26) (by simp) 0, h.cell (b := Bj) (cs := #[.int .i64 j.u, .slice Ej j.after.length mj, .int .i64 j.ap, .int .i64 j.den]) (t := 26) (by simp) 1, h.cell (b := Bj) (cs := #[.int .i64 j.u, .slice Ej j.after.length mj, .int .i64 j.ap, .int .i64 j.den]) (t := 26) (by simp) 2, h.cell (b := Bj) (cs := #[.int .i64 j.u, .slice Ej j.after.length mj, .int .i64 j.ap, .int .i64 j.den]) (t := 26) (by simp) 3, h.cell (b := Bb) (cs := #[.int .i64 b.u, .slice Eb b.after.length mb, .int .i64 b.ap, .int .i64 b.den]) (t := 26) (by simp) 0, h.cell (b := Bb) (cs := #[.int .i64 b.u, .slice Eb b.after.length mb, .int .i64 b.ap, .int .i64 b.den]) (t := 26) (by simp) 1, h.cell (b := Bb) (cs := #[.int .i64 b.u, .slice Eb b.after.length mb, .int .i64 b.ap, .int .i64 b.den]) (t := 26) (by simp) 2, h.cell (b := Bb) (cs := #[.int .i64 b.u, .slice Eb b.after.length mb, .int .i64 b.ap, .int .i64 b.den]) (t := 26) (by simp) 3, h.cell (b := Ba) (cs := #[.int .i64 a.u, .slice Ea a.after.length ma, .int .i64 a.ap, .int .i64 a.den]) (t := 26) (by simp) 0, h.cell (b := Ba) (cs := #[.int .i64 a.u, .slice Ea a.after.length ma, .int .i64 a.ap, .int .i64 a.den]) (t := 26) (by simp) 1, h.cell (b := Ba) (cs := #[.int .i64 a.u, .slice Ea a.after.length ma, .int .i64 a.ap, .int .i64 a.den]) (t := 26) (by simp) 2, h.cell (b := Ba) (cs := #[.int .i64 a.u, .slice Ea a.after.length ma, .int .i64 a.ap, .int .i64 a.den]) (t := 26) (by simp) 3, h.cell (b := w.heap.size + 1 + 1) (cs := #[.int .i64 z0, .int .i64 z1, .int .i64 z2, .int .i64 z3]) (t := 22) (by simp) 0, h.cell (b := w.heap.size + 1 + 1) (cs := #[.int .i64 z0, .int .i64 z1, .int .i64 z2, .int .i64 z3]) (t := 22) (by simp) 1, h.cell (b := w.heap.size + 1 + 1) (cs := #[.int .i64 z0, .int .i64 z1, .int .i64 z2, .int .i64 z3]) (t := 22) (by simp) 2, h.cell (b := w.heap.size + 1 + 1) (cs := #[.int .i64 z0, .int .i64 z1, .int .i64 z2, .int .i64 z3]) (t := 22) (by simp) 3⟩)
          first | go_region_held3 (fun W => W.cell? ⟨Bj, 0, none⟩ = some (.int .i64 j.u) ∧ W.cell? ⟨Bj, 1, none⟩ = some (.slice Ej j.after.length mj) ∧ W.cell? ⟨Bj, 2, none⟩ = some (.int .i64 j.ap) ∧ W.cell? ⟨Bj, 3, none⟩ = some (.int .i64 j.den) ∧ W.cell? ⟨Bb, 0, none⟩ = some (.int .i64 b.u) ∧ W.cell? ⟨Bb, 1, none⟩ = some (.slice Eb b.after.length mb) ∧ W.cell? ⟨Bb, 2, none⟩ = some (.int .i64 b.ap) ∧ W.cell? ⟨Bb, 3, none⟩ = some (.int .i64 b.den) ∧ W.cell? ⟨Ba, 0, none⟩ = some (.int .i64 a.u) ∧ W.cell? ⟨Ba, 1, none⟩ = some (.slice Ea a.after.length ma) ∧ W.cell? ⟨Ba, 2, none⟩ = some (.int .i64 a.ap) ∧ W.cell? ⟨Ba, 3, none⟩ = some (.int .i64 a.den) ∧ W.cell? ⟨w.heap.size + 1 + 1, 0, none⟩ = some (.int .i64 z0) ∧ W.cell? ⟨w.heap.size + 1 + 1, 1, none⟩ = some (.int .i64 z1) ∧ W.cell? ⟨w.heap.size + 1 + 1, 2, none⟩ = some (.int .i64 z2) ∧ W.cell? ⟨w.heap.size + 1 + 1, 3, none⟩ = some (.int .i64 z3)) (first | with_reducible exact K.out _ _ SS.out | with_reducible exact K.out _ _ (St.alloc SS.out _) | go_keep) (first | (go_at_call 26; apply Calls.mono; with_reducible apply stories_st (w := w); exact SS.out; rintro e WR ⟨ES, mS, rfl, hmS, h1_⟩; have SS := Aside0.mk h1_; clear h1_)) | fail
          have SB_ := St.box SS.out #[.slice ES (mk 0 z1 0 0).after.length mS, .slice Ea a.after.length ma, .slice Eb b.after.length mb, .slice Ej j.after.length mj] 23
          obtain ⟨O, hO⟩ : ∃ O, WR.heap.size = O := ⟨_, rfl⟩
          rw [hO] at SB_ ⊢
          generalize WR.alloc (.cells #[.slice ES (mk 0 z1 0 0).after.length mS, .slice Ea a.after.length ma, .slice Eb b.after.length mb, .slice Ej j.after.length mj] 23) = WO at SB_ ⊢
          have SO := Aside0.mk SB_
          clear SB_ hO K SS
          have TO : Aside0 (∀ i, i < 4 → ∃ (E : Option Addr) (l : List Int) (m : Nat), (E, l) ∈ ((ES, (mk 0 z1 0 0).after) :: LL) ∧ l.length ≤ m ∧ ∀ (L' : List (Option Addr × List Int)) (M' : List (Nat × Array Value × TypeId)) (W' : World), (O, (#[.slice ES (mk 0 z1 0 0).after.length mS, .slice Ea a.after.length ma, .slice Eb b.after.length mb, .slice Ej j.after.length mj] : Array Value), 23) ∈ M' → St w L' M' W' → W'.cell? ⟨O, i, none⟩ = some (.slice E l.length m)) := Aside0.mk (fun i hi => slices_at (L := ((ES, (mk 0 z1 0 0).after) :: LL)) [(ES, (mk 0 z1 0 0).after, mS), (Ea, a.after, ma), (Eb, b.after, mb), (Ej, j.after, mj)] rfl (by
            intro p hp
            simp only [List.mem_cons, List.not_mem_nil, or_false] at hp
            rcases hp with rfl | rfl | rfl | rfl
            · exact ⟨by first | assumption | exact List.mem_cons_self .. | exact List.mem_cons_of_mem _ (by assumption), by assumption⟩
            · exact ⟨by first | assumption | exact List.mem_cons_self .. | exact List.mem_cons_of_mem _ (by assumption), by assumption⟩
            · exact ⟨by first | assumption | exact List.mem_cons_self .. | exact List.mem_cons_of_mem _ (by assumption), by assumption⟩
            · exact ⟨by first | assumption | exact List.mem_cons_self .. | exact List.mem_cons_of_mem _ (by assumption), by assumption⟩) i hi)
          generalize (#[.slice ES (mk 0 z1 0 0).after.length mS, .slice Ea a.after.length ma, .slice Eb b.after.length mb, .slice Ej j.after.length mj] : Array Value) = CO at SO TO
          go_wp2
          go_loopg [7, 58] 5 (fun gk v7 v58 w' => ∃ i3 : Nat, v7 = .bool true ∧ v58 = .int .i64 i3 ∧ Aside0 (i3 ≤ 4 ∧ gk = 4 - i3 + 1 ∧ St w ((ES, (mk 0 z1 0 0).after) :: LL) [(O, CO, 23), (N, CN, 3), (Bj, #[.int .i64 j.u, .slice Ej j.after.length mj, .int .i64 j.ap, .int .i64 j.den], 26), (Bb, #[.int .i64 b.u, .slice Eb b.after.length mb, .int .i64 b.ap, .int .i64 b.den], 26), (Ba, #[.int .i64 a.u, .slice Ea a.after.length ma, .int .i64 a.ap, .int .i64 a.den], 26), (w.heap.size + 1 + 1, #[.int .i64 z0, .int .i64 z1, .int .i64 z2, .int .i64 z3], 22)] w'))
          case atStart => exact ⟨0, rfl, rfl, ⟨⟨by omega, by omega, SO.out⟩⟩⟩
          case round =>
            obtain ⟨i3, rfl, rfl, HI⟩ := hrel
            obtain ⟨hl3, hg3, SR⟩ := HI.out
            clear HI
            have R3 := Aside0.mk SR
            clear SR
            by_cases hi3 : i3 < 4
            · have hd3 : decide ((i3 : Int) < 4) = true := decide_eq_true (by omega)
              obtain ⟨EO, lo, mo, hro, hmo, hco⟩ := TO.out i3 hi3
              have eo := hco _ _ _ (by simp) R3.out
              clear hco
              have jc0 := R3.out.cell (b := Bj) (cs := #[.int .i64 j.u, .slice Ej j.after.length mj, .int .i64 j.ap, .int .i64 j.den]) (t := 26) (by simp) 0
              have jc1 := R3.out.cell (b := Bj) (cs := #[.int .i64 j.u, .slice Ej j.after.length mj, .int .i64 j.ap, .int .i64 j.den]) (t := 26) (by simp) 1
              have jc2 := R3.out.cell (b := Bj) (cs := #[.int .i64 j.u, .slice Ej j.after.length mj, .int .i64 j.ap, .int .i64 j.den]) (t := 26) (by simp) 2
              have jc3 := R3.out.cell (b := Bj) (cs := #[.int .i64 j.u, .slice Ej j.after.length mj, .int .i64 j.ap, .int .i64 j.den]) (t := 26) (by simp) 3
              have bc0 := R3.out.cell (b := Bb) (cs := #[.int .i64 b.u, .slice Eb b.after.length mb, .int .i64 b.ap, .int .i64 b.den]) (t := 26) (by simp) 0
              have bc1 := R3.out.cell (b := Bb) (cs := #[.int .i64 b.u, .slice Eb b.after.length mb, .int .i64 b.ap, .int .i64 b.den]) (t := 26) (by simp) 1
              have bc2 := R3.out.cell (b := Bb) (cs := #[.int .i64 b.u, .slice Eb b.after.length mb, .int .i64 b.ap, .int .i64 b.den]) (t := 26) (by simp) 2
              have bc3 := R3.out.cell (b := Bb) (cs := #[.int .i64 b.u, .slice Eb b.after.length mb, .int .i64 b.ap, .int .i64 b.den]) (t := 26) (by simp) 3
              have ac0 := R3.out.cell (b := Ba) (cs := #[.int .i64 a.u, .slice Ea a.after.length ma, .int .i64 a.ap, .int .i64 a.den]) (t := 26) (by simp) 0
              have ac1 := R3.out.cell (b := Ba) (cs := #[.int .i64 a.u, .slice Ea a.after.length ma, .int .i64 a.ap, .int .i64 a.den]) (t := 26) (by simp) 1
              have ac2 := R3.out.cell (b := Ba) (cs := #[.int .i64 a.u, .slice Ea a.after.length ma, .int .i64 a.ap, .int .i64 a.den]) (t := 26) (by simp) 2
              have ac3 := R3.out.cell (b := Ba) (cs := #[.int .i64 a.u, .slice Ea a.after.length ma, .int .i64 a.ap, .int .i64 a.den]) (t := 26) (by simp) 3
              have zc0 := R3.out.cell (b := w.heap.size + 1 + 1) (cs := #[.int .i64 z0, .int .i64 z1, .int .i64 z2, .int .i64 z3]) (t := 22) (by simp) 0
              have zc1 := R3.out.cell (b := w.heap.size + 1 + 1) (cs := #[.int .i64 z0, .int .i64 z1, .int .i64 z2, .int .i64 z3]) (t := 22) (by simp) 1
              have zc2 := R3.out.cell (b := w.heap.size + 1 + 1) (cs := #[.int .i64 z0, .int .i64 z1, .int .i64 z2, .int .i64 z3]) (t := 22) (by simp) 2
              have zc3 := R3.out.cell (b := w.heap.size + 1 + 1) (cs := #[.int .i64 z0, .int .i64 z1, .int .i64 z2, .int .i64 z3]) (t := 22) (by simp) 3
              go_wp2
              have SB_ := St.box R3.out #[.int .i64 z2, .int .i64 a.ap, .int .i64 j.ap] 3
              obtain ⟨P, hP⟩ : ∃ P, wr.heap.size = P := ⟨_, rfl⟩
              rw [hP] at SB_ ⊢
              generalize wr.alloc (.cells #[.int .i64 z2, .int .i64 a.ap, .int .i64 j.ap] 3) = WP at SB_ ⊢
              have SP := Aside0.mk SB_
              clear SB_ hP eo jc0 jc1 jc2 jc3 bc0 bc1 bc2 bc3 ac0 ac1 ac2 ac3 zc0 zc1 zc2 zc3
              have TP : Aside0 (∀ i, i < 3 → ∃ n : Int, n ∈ [z2, a.ap, j.ap] ∧ ∀ (L' : List (Option Addr × List Int)) (M' : List (Nat × Array Value × TypeId)) (W' : World), (P, (#[.int .i64 z2, .int .i64 a.ap, .int .i64 j.ap] : Array Value), 3) ∈ M' → St w L' M' W' → W'.cell? ⟨P, i, none⟩ = some (.int .i64 n)) := Aside0.mk (fun i hi => ints_at [z2, a.ap, j.ap] rfl i hi)
              generalize (#[.int .i64 z2, .int .i64 a.ap, .int .i64 j.ap] : Array Value) = CP at SP TP
              go_loopg [7, 70] 4 (fun gk v7 v70 w' => ∃ i4 : Nat, v7 = .bool true ∧ v70 = .int .i64 i4 ∧ Aside0 (i4 ≤ 3 ∧ gk = 3 - i4 + 1 ∧ St w ((ES, (mk 0 z1 0 0).after) :: LL) [(P, CP, 3), (O, CO, 23), (N, CN, 3), (Bj, #[.int .i64 j.u, .slice Ej j.after.length mj, .int .i64 j.ap, .int .i64 j.den], 26), (Bb, #[.int .i64 b.u, .slice Eb b.after.length mb, .int .i64 b.ap, .int .i64 b.den], 26), (Ba, #[.int .i64 a.u, .slice Ea a.after.length ma, .int .i64 a.ap, .int .i64 a.den], 26), (w.heap.size + 1 + 1, #[.int .i64 z0, .int .i64 z1, .int .i64 z2, .int .i64 z3], 22)] w'))
              case atStart => exact ⟨0, rfl, rfl, ⟨⟨by omega, by omega, SP.out⟩⟩⟩
              case round =>
                obtain ⟨i4, rfl, rfl, HI⟩ := hrel
                obtain ⟨hl4, hg4, SR⟩ := HI.out
                clear HI
                have R4 := Aside0.mk SR
                clear SR
                by_cases hi4 : i4 < 3
                · have hd4 : decide ((i4 : Int) < 3) = true := decide_eq_true (by omega)
                  obtain ⟨n1, hn1, hcp⟩ := TP.out i4 hi4
                  have ep := hcp _ _ _ (by simp) R4.out
                  clear hcp
                  go_wp2
                  clear ep
                  have SS := Aside0.mk (St.drew R4.out)
                  have K : Aside0 (∀ (L : List (Option Addr × List Int)) (W : World), St w L [(P, CP, 3), (O, CO, 23), (N, CN, 3), (Bj, #[.int .i64 j.u, .slice Ej j.after.length mj, .int .i64 j.ap, .int .i64 j.den], 26), (Bb, #[.int .i64 b.u, .slice Eb b.after.length mb, .int .i64 b.ap, .int .i64 b.den], 26), (Ba, #[.int .i64 a.u, .slice Ea a.after.length ma, .int .i64 a.ap, .int .i64 a.den], 26), (w.heap.size + 1 + 1, #[.int .i64 z0, .int .i64 z1, .int .i64 z2, .int .i64 z3], 22)] W → W.cell? ⟨Bj, 0, none⟩ = some (.int .i64 j.u) ∧ W.cell? ⟨Bj, 1, none⟩ = some (.slice Ej j.after.length mj) ∧ W.cell? ⟨Bj, 2, none⟩ = some (.int .i64 j.ap) ∧ W.cell? ⟨Bj, 3, none⟩ = some (.int .i64 j.den) ∧ W.cell? ⟨Bb, 0, none⟩ = some (.int .i64 b.u) ∧ W.cell? ⟨Bb, 1, none⟩ = some (.slice Eb b.after.length mb) ∧ W.cell? ⟨Bb, 2, none⟩ = some (.int .i64 b.ap) ∧ W.cell? ⟨Bb, 3, none⟩ = some (.int .i64 b.den) ∧ W.cell? ⟨Ba, 0, none⟩ = some (.int .i64 a.u) ∧ W.cell? ⟨Ba, 1, none⟩ = some (.slice Ea a.after.length ma) ∧ W.cell? ⟨Ba, 2, none⟩ = some (.int .i64 a.ap) ∧ W.cell? ⟨Ba, 3, none⟩ = some (.int .i64 a.den)) := Aside0.mk (fun L W h => ⟨h.cell (b := Bj) (cs := #[.int .i64 j.u, .slice Ej j.after.length mj, .int .i64 j.ap, .int .i64 j.den]) (t := 26) (by simp) 0, h.cell (b := Bj) (cs := #[.int .i64 j.u, .slice Ej j.after.length mj, .int .i64 j.ap, .int .i64 j.den]) (t := 26) (by simp) 1, h.cell (b := Bj) (cs := #[.int .i64 j.u, .slice Ej j.after.length mj, .int .i64 j.ap, .int .i64 j.den]) (t := 26) (by simp) 2, h.cell (b := Bj) (cs := #[.int .i64 j.u, .slice Ej j.after.length mj, .int .i64 j.ap, .int .i64 j.den]) (t := 26) (by simp) 3, h.cell (b := Bb) (cs := #[.int .i64 b.u, .slice Eb b.after.length mb, .int .i64 b.ap, .int .i64 b.den]) (t := 26) (by simp) 0, h.cell (b := Bb) (cs := #[.int .i64 b.u, .slice Eb b.after.length mb, .int .i64 b.ap, .int .i64 b.den]) (t := 26) (by simp) 1, h.cell (b := Bb) (cs := #[.int .i64 b.u, .slice Eb b.after.length mb, .int .i64 b.ap, .int .i64 b.den]) (t := 26) (by simp) 2, h.cell (b := Bb) (cs := #[.int .i64 b.u, .slice Eb b.after.length mb, .int .i64 b.ap, .int .i64 b.den]) (t := 26) (by simp) 3, h.cell (b := Ba) (cs := #[.int .i64 a.u, .slice Ea a.after.length ma, .int .i64 a.ap, .int .i64 a.den]) (t := 26) (by simp) 0, h.cell (b := Ba) (cs := #[.int .i64 a.u, .slice Ea a.after.length ma, .int .i64 a.ap, .int .i64 a.den]) (t := 26) (by simp) 1, h.cell (b := Ba) (cs := #[.int .i64 a.u, .slice Ea a.after.length ma, .int .i64 a.ap, .int .i64 a.den]) (t := 26) (by simp) 2, h.cell (b := Ba) (cs := #[.int .i64 a.u, .slice Ea a.after.length ma, .int .i64 a.ap, .int .i64 a.den]) (t := 26) (by simp) 3⟩)
                  have ht := hj ▸ Lab.join_allows oa.out ob.out (i1 : Int) n0 lo n1
                  cases hA : Lab.allows a (i1 : Int) n0 lo n1 <;> cases hB : Lab.allows b (i1 : Int) n0 lo n1 <;> rw [hA, hB] at ht <;> simp only [Bool.and_true, Bool.and_false] at ht
                  all_goals (
                    refine wp_region_held_drew (S := (fun W => W.cell? ⟨Bj, 0, none⟩ = some (.int .i64 j.u) ∧ W.cell? ⟨Bj, 1, none⟩ = some (.slice Ej j.after.length mj) ∧ W.cell? ⟨Bj, 2, none⟩ = some (.int .i64 j.ap) ∧ W.cell? ⟨Bj, 3, none⟩ = some (.int .i64 j.den) ∧ W.cell? ⟨Bb, 0, none⟩ = some (.int .i64 b.u) ∧ W.cell? ⟨Bb, 1, none⟩ = some (.slice Eb b.after.length mb) ∧ W.cell? ⟨Bb, 2, none⟩ = some (.int .i64 b.ap) ∧ W.cell? ⟨Bb, 3, none⟩ = some (.int .i64 b.den) ∧ W.cell? ⟨Ba, 0, none⟩ = some (.int .i64 a.u) ∧ W.cell? ⟨Ba, 1, none⟩ = some (.slice Ea a.after.length ma) ∧ W.cell? ⟨Ba, 2, none⟩ = some (.int .i64 a.ap) ∧ W.cell? ⟨Ba, 3, none⟩ = some (.int .i64 a.den))) (by kernel_rfl) (by (try dsimp only); (first | with_reducible exact K.out _ _ SS.out | go_keep)) (fun hHeld => ?_)
                    first | refine reg_tk 0 ?_ | refine reg_sk 0 ?_ | fail
                    (try simp only [Act.put, List.setIfInBounds_toArray, List.set_cons_zero, List.set_cons_succ])
                    first | refine reg_tk 1 ?_ | refine reg_sk 1 ?_ | fail
                    (try simp only [Act.put, List.setIfInBounds_toArray, List.set_cons_zero, List.set_cons_succ])
                    first | refine reg_tk 2 ?_ | refine reg_sk 2 ?_ | fail
                    (try simp only [Act.put, List.setIfInBounds_toArray, List.set_cons_zero, List.set_cons_succ])
                    first | refine reg_tk 3 ?_ | refine reg_sk 3 ?_ | fail
                    (try simp only [Act.put, List.setIfInBounds_toArray, List.set_cons_zero, List.set_cons_succ])
                    first | refine reg_tk 4 ?_ | refine reg_sk 4 ?_ | fail
                    (try simp only [Act.put, List.setIfInBounds_toArray, List.set_cons_zero, List.set_cons_succ])
                    first | refine reg_tk 5 ?_ | refine reg_sk 5 ?_ | fail
                    (try simp only [Act.put, List.setIfInBounds_toArray, List.set_cons_zero, List.set_cons_succ])
                    first | refine reg_tk 6 ?_ | refine reg_sk 6 ?_ | fail
                    (try simp only [Act.put, List.setIfInBounds_toArray, List.set_cons_zero, List.set_cons_succ])
                    first | refine reg_tk 8 ?_ | refine reg_sk 8 ?_ | fail
                    (try simp only [Act.put, List.setIfInBounds_toArray, List.set_cons_zero, List.set_cons_succ])
                    first | refine reg_tk 9 ?_ | refine reg_sk 9 ?_ | fail
                    (try simp only [Act.put, List.setIfInBounds_toArray, List.set_cons_zero, List.set_cons_succ])
                    first | refine reg_tk 10 ?_ | refine reg_sk 10 ?_ | fail
                    (try simp only [Act.put, List.setIfInBounds_toArray, List.set_cons_zero, List.set_cons_succ])
                    first | refine reg_tk 11 ?_ | refine reg_sk 11 ?_ | fail
                    (try simp only [Act.put, List.setIfInBounds_toArray, List.set_cons_zero, List.set_cons_succ])
                    first | refine reg_tk 12 ?_ | refine reg_sk 12 ?_ | fail
                    (try simp only [Act.put, List.setIfInBounds_toArray, List.set_cons_zero, List.set_cons_succ])
                    first | refine reg_sk 7 ?_ | (refine reg_one 7 (fun KK_ hKK_ => ?_); go_simp; (go_at_call 24; apply Calls.mono; with_reducible apply allows_st (w := w) j; exact SS.out; (first | assumption | exact List.mem_cons_self .. | exact List.mem_cons_of_mem _ (by assumption) | simp); (first | assumption | exact List.mem_cons_self .. | exact List.mem_cons_of_mem _ (by assumption) | simp); (first | assumption | exact List.mem_cons_self .. | exact List.mem_cons_of_mem _ (by assumption) | simp); (first | assumption | exact List.mem_cons_self .. | exact List.mem_cons_of_mem _ (by assumption) | simp); rintro e WR ⟨rfl, h1_⟩; rw [ht]; have SS := Aside0.mk h1_; clear h1_); refine hKK_.out _ _ (by (try dsimp only); (first | with_reducible exact K.out _ _ SS.out | go_keep)) (fun hHeld => ?_); clear hKK_ KK_) | fail
                    (try simp only [Act.put, List.setIfInBounds_toArray, List.set_cons_zero, List.set_cons_succ])
                    first | refine reg_sk 13 ?_ | (refine reg_one 13 (fun KK_ hKK_ => ?_); go_simp; (go_at_call 24; apply Calls.mono; with_reducible apply allows_st (w := w) a; exact SS.out; (first | assumption | exact List.mem_cons_self .. | exact List.mem_cons_of_mem _ (by assumption) | simp); (first | assumption | exact List.mem_cons_self .. | exact List.mem_cons_of_mem _ (by assumption) | simp); (first | assumption | exact List.mem_cons_self .. | exact List.mem_cons_of_mem _ (by assumption) | simp); (first | assumption | exact List.mem_cons_self .. | exact List.mem_cons_of_mem _ (by assumption) | simp); rintro e WR ⟨rfl, h1_⟩; rw [hA]; have SS := Aside0.mk h1_; clear h1_); refine hKK_.out _ _ (by (try dsimp only); (first | with_reducible exact K.out _ _ SS.out | go_keep)) (fun hHeld => ?_); clear hKK_ KK_) | fail
                    (try simp only [Act.put, List.setIfInBounds_toArray, List.set_cons_zero, List.set_cons_succ])
                    first | refine reg_tk 14 ?_ | refine reg_sk 14 ?_ | fail
                    (try simp only [Act.put, List.setIfInBounds_toArray, List.set_cons_zero, List.set_cons_succ])
                    first | refine reg_tk 15 ?_ | refine reg_sk 15 ?_ | fail
                    (try simp only [Act.put, List.setIfInBounds_toArray, List.set_cons_zero, List.set_cons_succ])
                    first | refine reg_tk 16 ?_ | refine reg_sk 16 ?_ | fail
                    (try simp only [Act.put, List.setIfInBounds_toArray, List.set_cons_zero, List.set_cons_succ])
                    first | refine reg_tk 17 ?_ | refine reg_sk 17 ?_ | fail
                    (try simp only [Act.put, List.setIfInBounds_toArray, List.set_cons_zero, List.set_cons_succ])
                    first | refine reg_tk 18 ?_ | refine reg_sk 18 ?_ | fail
                    (try simp only [Act.put, List.setIfInBounds_toArray, List.set_cons_zero, List.set_cons_succ])
                    first | refine reg_tk 19 ?_ | refine reg_sk 19 ?_ | fail
                    (try simp only [Act.put, List.setIfInBounds_toArray, List.set_cons_zero, List.set_cons_succ])
                    first | refine reg_sk 20 ?_ | (refine reg_one 20 (fun KK_ hKK_ => ?_); go_simp; (go_at_call 24; apply Calls.mono; with_reducible apply allows_st (w := w) b; exact SS.out; (first | assumption | exact List.mem_cons_self .. | exact List.mem_cons_of_mem _ (by assumption) | simp); (first | assumption | exact List.mem_cons_self .. | exact List.mem_cons_of_mem _ (by assumption) | simp); (first | assumption | exact List.mem_cons_self .. | exact List.mem_cons_of_mem _ (by assumption) | simp); (first | assumption | exact List.mem_cons_self .. | exact List.mem_cons_of_mem _ (by assumption) | simp); rintro e WR ⟨rfl, h1_⟩; rw [hB]; have SS := Aside0.mk h1_; clear h1_); refine hKK_.out _ _ (by (try dsimp only); (first | with_reducible exact K.out _ _ SS.out | go_keep)) (fun hHeld => ?_); clear hKK_ KK_) | fail
                    (try simp only [Act.put, List.setIfInBounds_toArray, List.set_cons_zero, List.set_cons_succ])
                    first | refine reg_tk 21 ?_ | refine reg_sk 21 ?_ | fail
                    (try simp only [Act.put, List.setIfInBounds_toArray, List.set_cons_zero, List.set_cons_succ])
                    first | refine reg_tk 22 ?_ | refine reg_sk 22 ?_ | fail
                    (try simp only [Act.put, List.setIfInBounds_toArray, List.set_cons_zero, List.set_cons_succ])
                    first | refine reg_tk 23 ?_ | refine reg_sk 23 ?_ | fail
                    (try simp only [Act.put, List.setIfInBounds_toArray, List.set_cons_zero, List.set_cons_succ])
                    first | refine reg_tk 24 ?_ | refine reg_sk 24 ?_ | fail
                    (try simp only [Act.put, List.setIfInBounds_toArray, List.set_cons_zero, List.set_cons_succ])
                    refine wpAnyH_done (by kernel_rfl) ?_ _
                    go_wp2
                    go_roundg (3 - i4)
                    (case rel => exact ⟨i4 + 1, rfl, by simp, ⟨⟨by omega, by omega, SS.out⟩⟩⟩)
                    (case measure => omega))
                · obtain rfl : i4 = 3 := by omega
                  go_wp2
                  go_roundg (4 - i3)
                  case rel => exact ⟨i3 + 1, rfl, by simp, ⟨⟨by omega, by omega, R4.out.tail⟩⟩⟩
                  case measure => omega
            · obtain rfl : i3 = 4 := by omega
              go_wp2
              go_roundg (5 - i2)
              case rel => exact ⟨i2 + 1, rfl, by simp, ⟨⟨by omega, by omega, R3.out.tail.tailRow⟩⟩⟩
              case measure => omega
        · obtain rfl : i2 = 5 := by omega
          go_wp2
          go_roundg (4 - i1)
          case rel => exact ⟨i1 + 1, rfl, by simp, ⟨⟨by omega, by omega, R2.out.tail⟩⟩⟩
          case measure => omega
    · obtain rfl : i1 = 4 := by omega
      go_wp2
      go_ret
      exact ⟨rfl, R1.out.bel⟩
end Go.Proofs.Ytngckofkbkhomaa
