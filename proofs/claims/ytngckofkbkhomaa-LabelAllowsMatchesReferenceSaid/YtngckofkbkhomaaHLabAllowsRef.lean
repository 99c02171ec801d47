/- The walk of the law LabelAllowsMatchesReference: it tells true. -/
import Derived.Test.YtngckofkbkhomaaHLabSane
import Derived.Deep.RegionHeld3
import Derived.Test.YtngckofkbkhomaaHLabRaw2
namespace Go.Proofs.Ytngckofkbkhomaa
open Go.RowKit Go.Lib Go.Proofs.Ytngckofkbkhomaa.PBase Go.Proofs.YtngckofkbkhomaaW.PrintWords Go.Proofs.YtngckofkbkhomaaW.PrintLast Go.Proofs.YtngckofkbkhomaaW.PrintMore
set_option linter.unusedVariables false
set_option linter.unusedSimpArgs false
set_option maxHeartbeats 64000000 in
set_option maxRecDepth 100000 in
theorem labelallowsmatchesreference_calls (w : World) (x0 x1 x2 x3 t0 t1 t2 : Int) (A : Option Addr) (c : Nat) (lf : List Int) (hx : Rng x0 ∧ Rng x2 ∧ Rng x3) (hr : Kd.C (Kd.int .i64) w A lf.length lf) (hc : lf.length ≤ c) (hcm : c ≤ 9223372036854775807) :
    Calls Try.prog 4 #[.agg #[.int .i64 x0, .int .i64 x1, .int .i64 x2, .int .i64 x3], .slice A lf.length c, .agg #[.int .i64 t0, .int .i64 t1, .int .i64 t2]] w fun e w' => e = .returned (.bool true) ∧ Below w.heap.size w w' := by
  have hu := Try.underlying26
  have hu2 := Try.underlying22
  have hu3 := Try.underlying34
  obtain ⟨hx0, hx2, hx3⟩ := hx
  have S0 := Aside0.mk (St.add (St.start w) hr)
  obtain ⟨a, ha⟩ : ∃ a, mk x0 x1 x2 x3 = a := ⟨_, rfl⟩
  have oa := Aside0.mk (ha ▸ mk_ok x0 x1 x2 x3 : Lab.Ok a)
  clear hr
  obtain ⟨r, hr1, hr2, hr3, hr4⟩ : ∃ r : Lab, x0 = r.u ∧ lf.take 80 = r.after ∧ x2 = r.ap ∧ x3 = r.den := ⟨⟨x0, lf.take 80, x2, x3⟩, rfl, rfl, rfl, rfl⟩
  have HRR := Aside0.mk (And.intro hr1 (And.intro hr2 (And.intro hr3 hr4)))
  clear hr1 hr2 hr3 hr4
  go_enter Try.func4, Try.ntmps4
  go_upto_region 4 with (first | (have G_ := S1; clear G_; go_at_call 14; apply Calls.mono; apply make_st (w := w) x0 x1 x2 x3; exact S1.out; (first | assumption | simp); (first | assumption | simp); (first | assumption | simp); rintro e WS2 ⟨Ea, ma, rfl, hma, h1_⟩; rw [ha] at hma h1_ ⊢; (try simp only [World.size_alloc] at h1_); have S2 := Aside0.mk h1_; clear h1_; clear xc0 xc1 xc2 xc3 tc0 tc1 tc2 xn xm tn tm; have xc0 := S2.out.cell (b := w.heap.size) (cs := #[.int .i64 x0, .int .i64 x1, .int .i64 x2, .int .i64 x3]) (t := 22) (by simp) 0; have xc1 := S2.out.cell (b := w.heap.size) (cs := #[.int .i64 x0, .int .i64 x1, .int .i64 x2, .int .i64 x3]) (t := 22) (by simp) 1; have xc2 := S2.out.cell (b := w.heap.size) (cs := #[.int .i64 x0, .int .i64 x1, .int .i64 x2, .int .i64 x3]) (t := 22) (by simp) 2; have xc3 := S2.out.cell (b := w.heap.size) (cs := #[.int .i64 x0, .int .i64 x1, .int .i64 x2, .int .i64 x3]) (t := 22) (by simp) 3; have xn := World.new_ne WS2 ⟨w.heap.size, 0, none⟩ xc0; have xm := fun (o : Obj) (j : Nat) => World.cell?_alloc_lt WS2 o ⟨w.heap.size, j, none⟩ (World.block_lt_of_cell? WS2 ⟨w.heap.size, 0, none⟩ xc0); have tc0 := S2.out.cell (b := w.heap.size + 1) (cs := #[.int .i64 t0, .int .i64 t1, .int .i64 t2]) (t := 34) (by simp) 0; have tc1 := S2.out.cell (b := w.heap.size + 1) (cs := #[.int .i64 t0, .int .i64 t1, .int .i64 t2]) (t := 34) (by simp) 1; have tc2 := S2.out.cell (b := w.heap.size + 1) (cs := #[.int .i64 t0, .int .i64 t1, .int .i64 t2]) (t := 34) (by simp) 2; have tn := World.new_ne WS2 ⟨w.heap.size + 1, 0, none⟩ tc0; have tm := fun (o : Obj) (j : Nat) => World.cell?_alloc_lt WS2 o ⟨w.heap.size + 1, j, none⟩ (World.block_lt_of_cell? WS2 ⟨w.heap.size + 1, 0, none⟩ tc0)) | (have G_ := S0; clear G_; go_at_call 13; apply Calls.mono; apply sane_st (w := w); apply St.box; apply St.box; exact S0.out; rintro e WS1 ⟨rfl, h1_⟩; (try simp only [World.size_alloc] at h1_); have S1 := Aside0.mk h1_; clear h1_; have xc0 := S1.out.cell (b := w.heap.size) (cs := #[.int .i64 x0, .int .i64 x1, .int .i64 x2, .int .i64 x3]) (t := 22) (by simp) 0; have xc1 := S1.out.cell (b := w.heap.size) (cs := #[.int .i64 x0, .int .i64 x1, .int .i64 x2, .int .i64 x3]) (t := 22) (by simp) 1; have xc2 := S1.out.cell (b := w.heap.size) (cs := #[.int .i64 x0, .int .i64 x1, .int .i64 x2, .int .i64 x3]) (t := 22) (by simp) 2; have xc3 := S1.out.cell (b := w.heap.size) (cs := #[.int .i64 x0, .int .i64 x1, .int .i64 x2, .int .i64 x3]) (t := 22) (by simp) 3; have xn := World.new_ne WS1 ⟨w.heap.size, 0, none⟩ xc0; have xm := fun (o : Obj) (j : Nat) => World.cell?_alloc_lt WS1 o ⟨w.heap.size, j, none⟩ (World.block_lt_of_cell? WS1 ⟨w.heap.size, 0, none⟩ xc0); have tc0 := S1.out.cell (b := w.heap.size + 1) (cs := #[.int .i64 t0, .int .i64 t1, .int .i64 t2]) (t := 34) (by simp) 0; have tc1 := S1.out.cell (b := w.heap.size + 1) (cs := #[.int .i64 t0, .int .i64 t1, .int .i64 t2]) (t := 34) (by simp) 1; have tc2 := S1.out.cell (b := w.heap.size + 1) (cs := #[.int .i64 t0, .int .i64 t1, .int .i64 t2]) (t := 34) (by simp) 2; have tn := World.new_ne WS1 ⟨w.heap.size + 1, 0, none⟩ tc0; have tm := fun (o : Obj) (j : Nat) => World.cell?_alloc_lt WS1 o ⟨w.heap.size + 1, j, none⟩ (World.block_lt_of_cell? WS1 ⟨w.heap.size + 1, 0, none⟩ tc0)))
  have SB := St.box S2.out #[.int .i64 a.u, .slice Ea a.after.length ma, .int .i64 a.ap, .int .i64 a.den] 26
  generalize WS2.alloc (.cells #[.int .i64 a.u, .slice Ea a.after.length ma, .int .i64 a.ap, .int .i64 a.den] 26) = W0 at SB ⊢
  generalize WS2.heap.size = Ba at SB ⊢
  clear S0 S1 S2
  clear xc0 xc1 xc2 xc3 tc0 tc1 tc2 xn xm tn tm
  have SS := Aside0.mk (St.drew SB)
  clear SB
  have K : Aside0 (∀ (L : List (Option Addr × List Int)) (W : World), St w L [(Ba, #[.int .i64 a.u, .slice Ea a.after.length ma, .int .i64 a.ap, .int .i64 a.den], 26), (w.heap.size + 1, #[.int .i64 t0, .int .i64 t1, .int .i64 t2], 34), (w.heap.size, #[.int .i64 x0, .int .i64 x1, .int .i64 x2, .int .i64 x3], 22)] W → W.cell? ⟨Ba, 0, none⟩ = some (.int .i64 a.u) ∧ W.cell? ⟨Ba, 1, none⟩ = some (.slice Ea a.after.length ma) ∧ W.cell? ⟨Ba, 2, none⟩ = some (.int .i64 a.ap) ∧ W.cell? ⟨Ba, 3, none⟩ = some (.int .i64 a.den) ∧ W.cell? ⟨w.heap.size + 1, 0, none⟩ = some (.int .i64 t0) ∧ W.cell? ⟨w.heap.size + 1, 1, none⟩ = some (.int .i64 t1) ∧ W.cell? ⟨w.heap.size + 1, 2, none⟩ = some (.int .i64 t2) ∧ W.cell? ⟨w.heap.size, 0, none⟩ = some (.int .i64 x0) ∧ W.cell? ⟨w.heap.size, 1, none⟩ = some (.int .i64 x1) ∧ W.cell? ⟨w.heap.size, 2, none⟩ = some (.int .i64 x2) ∧ W.cell? ⟨w.heap.size, 3, none⟩ = some (.int .i64 x3)) := Aside0.mk (fun L W h => ⟨h.cell (b := Ba) (cs := #[.int .i64 a.u, .slice Ea a.after.length ma, .int .i64 a.ap, .int .i64 a.den]) (t := 26) (by simp) 0, h.cell (b := Ba) (cs := #[.int .i64 a.u, .slice Ea a.after.length ma, .int .i64 a.ap, .int .i64 a.den]) (t := 26) (by simp) 1, h.cell (b := Ba) (cs := #[.int .i64 a.u, .slice Ea a.after.length ma, .int .i64 a.ap, .int .i64 a.den]) (t := 26) (by simp) 2, h.cell (b := Ba) (cs := #[.int .i64 a.u, .slice Ea a.after.length ma, .int .i64 a.ap, .int .i64 a.den]) (t := 26) (by simp) 3, h.cell (b := w.heap.size + 1) (cs := #[.int .i64 t0, .int .i64 t1, .int .i64 t2]) (t := 34) (by simp) 0, h.cell (b := w.heap.size + 1) (cs := #[.int .i64 t0, .int .i64 t1, .int .i64 t2]) (t := 34) (by simp) 1, h.cell (b := w.heap.size + 1) (cs := #[.int .i64 t0, .int .i64 t1, .int .i64 t2]) (t := 34) (by simp) 2, h.cell (b := w.heap.size) (cs := #[.int .i64 x0, .int .i64 x1, .int .i64 x2, .int .i64 x3]) (t := 22) (by simp) 0, h.cell (b := w.heap.size) (cs := #[.int .i64 x0, .int .i64 x1, .int .i64 x2, .int .i64 x3]) (t := 22) (by simp) 1, h.cell (b := w.heap.size) (cs := #[.int .i64 x0, .int .i64 x1, .int .i64 x2, .int .i64 x3]) (t := 22) (by simp) 2, h.cell (b := w.heap.size) (cs := #[.int .i64 x0, .int .i64 x1, .int .i64 x2, .int .i64 x3]) (t := 22) (by simp) 3⟩)
  first | go_region_held3 (fun W => W.cell? ⟨Ba, 0, none⟩ = some (.int .i64 a.u) ∧ W.cell? ⟨Ba, 1, none⟩ = some (.slice Ea a.after.length ma) ∧ W.cell? ⟨Ba, 2, none⟩ = some (.int .i64 a.ap) ∧ W.cell? ⟨Ba, 3, none⟩ = some (.int .i64 a.den) ∧ W.cell? ⟨w.heap.size + 1, 0, none⟩ = some (.int .i64 t0) ∧ W.cell? ⟨w.heap.size + 1, 1, none⟩ = some (.int .i64 t1) ∧ W.cell? ⟨w.heap.size + 1, 2, none⟩ = some (.int .i64 t2) ∧ W.cell? ⟨w.heap.size, 0, none⟩ = some (.int .i64 x0) ∧ W.cell? ⟨w.heap.size, 1, none⟩ = some (.int .i64 x1) ∧ W.cell? ⟨w.heap.size, 2, none⟩ = some (.int .i64 x2) ∧ W.cell? ⟨w.heap.size, 3, none⟩ = some (.int .i64 x3)) (first | with_reducible exact K.out _ _ SS.out | with_reducible exact K.out _ _ (St.alloc SS.out _) | go_keep) (first | (go_at_call 15; apply Calls.mono; with_reducible apply raw_st (w := w) x0 x1 x2 x3 A c lf r HRR.out.1 HRR.out.2.1 HRR.out.2.2.1 HRR.out.2.2.2 hcm; exact SS.out; (first | assumption | simp); (first | assumption | simp); rintro e WR ⟨ER, mR, rfl, hmR, h1_⟩; have SS := Aside0.mk h1_; clear h1_)) | fail
  have SB := St.nil (St.box SS.out #[.int .i64 a.u, .slice Ea a.after.length ma, .int .i64 a.ap, .int .i64 a.den, .int .i64 r.u, .slice ER r.after.length mR, .int .i64 r.ap, .int .i64 r.den, .int .i64 0, .slice none 0 0, .int .i64 0, .int .i64 0] 26)
  clear SS K
  obtain ⟨B, hB⟩ : ∃ B, WR.heap.size = B := ⟨_, rfl⟩
  generalize WR.alloc (.cells #[.int .i64 a.u, .slice Ea a.after.length ma, .int .i64 a.ap, .int .i64 a.den, .int .i64 r.u, .slice ER r.after.length mR, .int .i64 r.ap, .int .i64 r.den, .int .i64 0, .slice none 0 0, .int .i64 0, .int .i64 0] 26) = WY at SB ⊢
  rw [hB] at SB ⊢
  have SY : Aside0 (St w [(none, []), (ER, r.after), (Ea, a.after), (A, lf)] [(B, #[.int .i64 a.u, .slice Ea a.after.length ma, .int .i64 a.ap, .int .i64 a.den, .int .i64 r.u, .slice ER r.after.length mR, .int .i64 r.ap, .int .i64 r.den, .int .i64 0, .slice none 0 0, .int .i64 0, .int .i64 0], 26), (Ba, #[.int .i64 a.u, .slice Ea a.after.length ma, .int .i64 a.ap, .int .i64 a.den], 26), (w.heap.size + 1, #[.int .i64 t0, .int .i64 t1, .int .i64 t2], 34), (w.heap.size, #[.int .i64 x0, .int .i64 x1, .int .i64 x2, .int .i64 x3], 22)] WY) := Aside0.mk (SB.sub (fun p hp => hp) (fun p hp => hp))
  clear SB hB
  have TB : Aside0 (∀ i, i < 3 → ∃ x E m, EntryR w [(none, []), (ER, r.after), (Ea, a.after), (A, lf)] B #[.int .i64 a.u, .slice Ea a.after.length ma, .int .i64 a.ap, .int .i64 a.den, .int .i64 r.u, .slice ER r.after.length mR, .int .i64 r.ap, .int .i64 r.den, .int .i64 0, .slice none 0 0, .int .i64 0, .int .i64 0] 26 i x E m) := Aside0.mk (fun i hi => entryR_at [(a, Ea, ma), (r, ER, mR), (Lab.zero, none, 0)] rfl (by
    intro p hp
    simp only [List.mem_cons, List.not_mem_nil, or_false] at hp
    rcases hp with rfl | rfl | rfl
    · exact ⟨by simp [Lab.zero], by first | assumption | simp [Lab.zero]⟩
    · exact ⟨by simp [Lab.zero], by first | assumption | simp [Lab.zero]⟩
    · exact ⟨by simp [Lab.zero], by first | assumption | simp [Lab.zero]⟩) i hi)
  have hrA : (A, lf) ∈ [(none, []), (ER, r.after), (Ea, a.after), (A, lf)] := by simp
  have hra : (Ea, a.after) ∈ [(none, []), (ER, r.after), (Ea, a.after), (A, lf)] := by simp
  have hrn : ((none : Option Addr), ([] : List Int)) ∈ [(none, []), (ER, r.after), (Ea, a.after), (A, lf)] := by simp
  generalize ([(none, []), (ER, r.after), (Ea, a.after), (A, lf)] : List (Option Addr × List Int)) = LL at SY TB hrA hra hrn
  generalize (#[.int .i64 a.u, .slice Ea a.after.length ma, .int .i64 a.ap, .int .i64 a.den, .int .i64 r.u, .slice ER r.after.length mR, .int .i64 r.ap, .int .i64 r.den, .int .i64 0, .slice none 0 0, .int .i64 0, .int .i64 0] : Array Value) = CS at SY TB
  have h0n : ([] : List Int).length ≤ 0 := Nat.le_refl 0
  go_wp2
  go_loopg [24] 4 (fun gk v24 w' => ∃ i1 : Nat, v24 = .int .i64 i1 ∧ Aside0 (i1 ≤ 3 ∧ gk = 3 - i1 + 1 ∧ St w LL [(B, CS, 26), (Ba, #[.int .i64 a.u, .slice Ea a.after.length ma, .int .i64 a.ap, .int .i64 a.den], 26), (w.heap.size + 1, #[.int .i64 t0, .int .i64 t1, .int .i64 t2], 34), (w.heap.size, #[.int .i64 x0, .int .i64 x1, .int .i64 x2, .int .i64 x3], 22)] w'))
  case atStart => exact ⟨0, rfl, ⟨⟨by omega, by omega, SY.out⟩⟩⟩
  case round =>
    obtain ⟨i1, rfl, HI⟩ := hrel
    obtain ⟨hl1, hg1, SR⟩ := HI.out
    clear HI
    have R1 := Aside0.mk SR
    clear SR
    by_cases hi1 : i1 < 3
    · have hd1 : decide ((i1 : Int) < 3) = true := decide_eq_true (by omega)
      obtain ⟨e1, E1, m1, hent⟩ := TB.out i1 hi1
      have hrow1 := hent.row
      have hcap1 := hent.cap
      obtain ⟨ec0, ec1, ec2, ec3⟩ := hent.cells _ _ _ (by simp) R1.out
      clear hent
      go_upto_region 7 with fail
      have SB_ := St.box R1.out #[.int .i64 e1.u, .slice E1 e1.after.length m1, .int .i64 e1.ap, .int .i64 e1.den] 26
      obtain ⟨V1, hV1⟩ : ∃ V1, wr.heap.size = V1 := ⟨_, rfl⟩
      rw [hV1] at SB_ ⊢
      generalize wr.alloc (.cells #[.int .i64 e1.u, .slice E1 e1.after.length m1, .int .i64 e1.ap, .int .i64 e1.den] 26) = WV1 at SB_ ⊢
      have SV1 := Aside0.mk SB_
      clear SB_ hV1 ec0 ec1 ec2 ec3
      have vc0 := SV1.out.cell (b := V1) (cs := #[.int .i64 e1.u, .slice E1 e1.after.length m1, .int .i64 e1.ap, .int .i64 e1.den]) (t := 26) (by simp) 0
      have vc1 := SV1.out.cell (b := V1) (cs := #[.int .i64 e1.u, .slice E1 e1.after.length m1, .int .i64 e1.ap, .int .i64 e1.den]) (t := 26) (by simp) 1
      have vc2 := SV1.out.cell (b := V1) (cs := #[.int .i64 e1.u, .slice E1 e1.after.length m1, .int .i64 e1.ap, .int .i64 e1.den]) (t := 26) (by simp) 2
      have vc3 := SV1.out.cell (b := V1) (cs := #[.int .i64 e1.u, .slice E1 e1.after.length m1, .int .i64 e1.ap, .int .i64 e1.den]) (t := 26) (by simp) 3
      have ac0 := SV1.out.cell (b := Ba) (cs := #[.int .i64 a.u, .slice Ea a.after.length ma, .int .i64 a.ap, .int .i64 a.den]) (t := 26) (by simp) 0
      have ac1 := SV1.out.cell (b := Ba) (cs := #[.int .i64 a.u, .slice Ea a.after.length ma, .int .i64 a.ap, .int .i64 a.den]) (t := 26) (by simp) 1
      have ac2 := SV1.out.cell (b := Ba) (cs := #[.int .i64 a.u, .slice Ea a.after.length ma, .int .i64 a.ap, .int .i64 a.den]) (t := 26) (by simp) 2
      have ac3 := SV1.out.cell (b := Ba) (cs := #[.int .i64 a.u, .slice Ea a.after.length ma, .int .i64 a.ap, .int .i64 a.den]) (t := 26) (by simp) 3
      go_wp2
      clear vc0 vc1 vc2 vc3 ac0 ac1 ac2 ac3
      have SB_ := St.box SV1.out #[.slice A lf.length c, .slice E1 e1.after.length m1, .slice Ea a.after.length ma, .slice none 0 0] 23
      obtain ⟨O, hO⟩ : ∃ O, WV1.heap.size = O := ⟨_, rfl⟩
      rw [hO] at SB_ ⊢
      generalize WV1.alloc (.cells #[.slice A lf.length c, .slice E1 e1.after.length m1, .slice Ea a.after.length ma, .slice none 0 0] 23) = WO at SB_ ⊢
      have SO := Aside0.mk SB_
      clear SB_ hO 
      have TO : Aside0 (∀ i, i < 4 → ∃ (E : Option Addr) (l : List Int) (m : Nat), (E, l) ∈ LL ∧ l.length ≤ m ∧ ∀ (L' : List (Option Addr × List Int)) (M' : List (Nat × Array Value × TypeId)) (W' : World), (O, (#[.slice A lf.length c, .slice E1 e1.after.length m1, .slice Ea a.after.length ma, .slice none 0 0] : Array Value), 23) ∈ M' → St w L' M' W' → W'.cell? ⟨O, i, none⟩ = some (.slice E l.length m)) := Aside0.mk (fun i hi => slices_at (L := LL) [(A, lf, c), (E1, e1.after, m1), (Ea, a.after, ma), (none, ([] : List Int), 0)] rfl (by
        intro p hp
        simp only [List.mem_cons, List.not_mem_nil, or_false] at hp
        rcases hp with rfl | rfl | rfl | rfl
        · exact ⟨by first | assumption | exact List.mem_cons_self .. | exact List.mem_cons_of_mem _ (by assumption), by assumption⟩
        · exact ⟨by first | assumption | exact List.mem_cons_self .. | exact List.mem_cons_of_mem _ (by assumption), by assumption⟩
        · exact ⟨by first | assumption | exact List.mem_cons_self .. | exact List.mem_cons_of_mem _ (by assumption), by assumption⟩
        · exact ⟨by first | assumption | exact List.mem_cons_self .. | exact List.mem_cons_of_mem _ (by assumption), by assumption⟩) i hi)
      generalize (#[.slice A lf.length c, .slice E1 e1.after.length m1, .slice Ea a.after.length ma, .slice none 0 0] : Array Value) = CO at SO TO
      go_loopg [35] 5 (fun gk v35 w' => ∃ i2 : Nat, v35 = .int .i64 i2 ∧ Aside0 (i2 ≤ 4 ∧ gk = 4 - i2 + 1 ∧ St w LL [(O, CO, 23), (V1, #[.int .i64 e1.u, .slice E1 e1.after.length m1, .int .i64 e1.ap, .int .i64 e1.den], 26), (B, CS, 26), (Ba, #[.int .i64 a.u, .slice Ea a.after.length ma, .int .i64 a.ap, .int .i64 a.den], 26), (w.heap.size + 1, #[.int .i64 t0, .int .i64 t1, .int .i64 t2], 34), (w.heap.size, #[.int .i64 x0, .int .i64 x1, .int .i64 x2, .int .i64 x3], 22)] w'))
      case atStart => exact ⟨0, rfl, ⟨⟨by omega, by omega, SO.out⟩⟩⟩
      case round =>
        obtain ⟨i2, rfl, HI⟩ := hrel
        obtain ⟨hl2, hg2, SR⟩ := HI.out
        clear HI
        have R2 := Aside0.mk SR
        clear SR
        by_cases hi2 : i2 < 4
        · have hd2 : decide ((i2 : Int) < 4) = true := decide_eq_true (by omega)
          obtain ⟨EO, lo, mo, hro, hmo, hco⟩ := TO.out i2 hi2
          have eo := hco _ _ _ (by simp) R2.out
          clear hco
          go_wp2
          clear eo
          go_loopg [12] 7 (fun gk v12 w' => ∃ (i3 : Nat) (v : Int), v12 = .int .i64 v ∧ Aside0 (v = (i3 : Int) - 1 ∧ i3 ≤ 6 ∧ gk = 6 - i3 + 1 ∧ St w LL [(O, CO, 23), (V1, #[.int .i64 e1.u, .slice E1 e1.after.length m1, .int .i64 e1.ap, .int .i64 e1.den], 26), (B, CS, 26), (Ba, #[.int .i64 a.u, .slice Ea a.after.length ma, .int .i64 a.ap, .int .i64 a.den], 26), (w.heap.size + 1, #[.int .i64 t0, .int .i64 t1, .int .i64 t2], 34), (w.heap.size, #[.int .i64 x0, .int .i64 x1, .int .i64 x2, .int .i64 x3], 22)] w'))
          case atStart => exact ⟨0, -1, rfl, ⟨⟨by omega, by omega, by omega, R2.out⟩⟩⟩
          case round =>
            obtain ⟨i3, v, rfl, HI⟩ := hrel
            obtain ⟨hv, hl3, hg3, SR⟩ := HI.out
            clear HI
            have R3 := Aside0.mk SR
            clear SR
            by_cases hi3 : v ≤ 4
            · have hd3 : decide (v ≤ 4) = true := decide_eq_true hi3
              have hvw : IntKind.i64.wrap (v + 1) = v + 1 := by
                rw [IntKind.wrap_i64]
                omega
              have SZ := Aside0.mk (St.drew R3.out)
              have K : Aside0 (∀ (L : List (Option Addr × List Int)) (W : World), St w L [(O, CO, 23), (V1, #[.int .i64 e1.u, .slice E1 e1.after.length m1, .int .i64 e1.ap, .int .i64 e1.den], 26), (B, CS, 26), (Ba, #[.int .i64 a.u, .slice Ea a.after.length ma, .int .i64 a.ap, .int .i64 a.den], 26), (w.heap.size + 1, #[.int .i64 t0, .int .i64 t1, .int .i64 t2], 34), (w.heap.size, #[.int .i64 x0, .int .i64 x1, .int .i64 x2, .int .i64 x3], 22)] W → W.cell? ⟨V1, 0, none⟩ = some (.int .i64 e1.u) ∧ W.cell? ⟨V1, 1, none⟩ = some (.slice E1 e1.after.length m1) ∧ W.cell? ⟨V1, 2, none⟩ = some (.int .i64 e1.ap) ∧ W.cell? ⟨V1, 3, none⟩ = some (.int .i64 e1.den) ∧ W.cell? ⟨w.heap.size + 1, 0, none⟩ = some (.int .i64 t0) ∧ W.cell? ⟨w.heap.size + 1, 1, none⟩ = some (.int .i64 t1) ∧ W.cell? ⟨w.heap.size + 1, 2, none⟩ = some (.int .i64 t2)) := Aside0.mk (fun L W h => ⟨h.cell (b := V1) (cs := #[.int .i64 e1.u, .slice E1 e1.after.length m1, .int .i64 e1.ap, .int .i64 e1.den]) (t := 26) (by simp) 0, h.cell (b := V1) (cs := #[.int .i64 e1.u, .slice E1 e1.after.length m1, .int .i64 e1.ap, .int .i64 e1.den]) (t := 26) (by simp) 1, h.cell (b := V1) (cs := #[.int .i64 e1.u, .slice E1 e1.after.length m1, .int .i64 e1.ap, .int .i64 e1.den]) (t := 26) (by simp) 2, h.cell (b := V1) (cs := #[.int .i64 e1.u, .slice E1 e1.after.length m1, .int .i64 e1.ap, .int .i64 e1.den]) (t := 26) (by simp) 3, h.cell (b := w.heap.size + 1) (cs := #[.int .i64 t0, .int .i64 t1, .int .i64 t2]) (t := 34) (by simp) 0, h.cell (b := w.heap.size + 1) (cs := #[.int .i64 t0, .int .i64 t1, .int .i64 t2]) (t := 34) (by simp) 1, h.cell (b := w.heap.size + 1) (cs := #[.int .i64 t0, .int .i64 t1, .int .i64 t2]) (t := 34) (by simp) 2⟩)
              go_wp2
              refine wp_region_held_drew (S := (fun W => W.cell? ⟨V1, 0, none⟩ = some (.int .i64 e1.u) ∧ W.cell? ⟨V1, 1, none⟩ = some (.slice E1 e1.after.length m1) ∧ W.cell? ⟨V1, 2, none⟩ = some (.int .i64 e1.ap) ∧ W.cell? ⟨V1, 3, none⟩ = some (.int .i64 e1.den) ∧ W.cell? ⟨w.heap.size + 1, 0, none⟩ = some (.int .i64 t0) ∧ W.cell? ⟨w.heap.size + 1, 1, none⟩ = some (.int .i64 t1) ∧ W.cell? ⟨w.heap.size + 1, 2, none⟩ = some (.int .i64 t2))) (by kernel_rfl) (by (try dsimp only); (with_reducible exact K.out _ _ SZ.out)) (fun hHeld => ?_)
              first | refine reg_tk 0 ?_ | refine reg_sk 0 ?_ | fail
              (try simp only [Act.put, List.setIfInBounds_toArray, List.set_cons_zero, List.set_cons_succ])
              first | refine reg_tk 1 ?_ | refine reg_sk 1 ?_ | fail
              (try simp only [Act.put, List.setIfInBounds_toArray, List.set_cons_zero, List.set_cons_succ])
              first | refine reg_tk 2 ?_ | refine reg_sk 2 ?_ | fail
              (try simp only [Act.put, List.setIfInBounds_toArray, List.set_cons_zero, List.set_cons_succ])
              first | refine reg_tk 3 ?_ | refine reg_sk 3 ?_ | fail
              (try simp only [Act.put, List.setIfInBounds_toArray, List.set_cons_zero, List.set_cons_succ])
              first | refine reg_tk 4 ?_ | refine reg_sk 4 ?_ | fail
              (try simp only [Act.put, List.setIfInBounds_toArray, List.set_cons_zero, List.set_cons_succ])
              first | refine reg_tk 5 ?_ | refine reg_sk 5 ?_ | fail
              (try simp only [Act.put, List.setIfInBounds_toArray, List.set_cons_zero, List.set_cons_succ])
              first | refine reg_tk 6 ?_ | refine reg_sk 6 ?_ | fail
              (try simp only [Act.put, List.setIfInBounds_toArray, List.set_cons_zero, List.set_cons_succ])
              first | refine reg_tk 8 ?_ | refine reg_sk 8 ?_ | fail
              (try simp only [Act.put, List.setIfInBounds_toArray, List.set_cons_zero, List.set_cons_succ])
              first | refine reg_tk 9 ?_ | refine reg_sk 9 ?_ | fail
              (try simp only [Act.put, List.setIfInBounds_toArray, List.set_cons_zero, List.set_cons_succ])
              first | refine reg_tk 10 ?_ | refine reg_sk 10 ?_ | fail
              (try simp only [Act.put, List.setIfInBounds_toArray, List.set_cons_zero, List.set_cons_succ])
              first | refine reg_tk 11 ?_ | refine reg_sk 11 ?_ | fail
              (try simp only [Act.put, List.setIfInBounds_toArray, List.set_cons_zero, List.set_cons_succ])
              first | refine reg_tk 12 ?_ | refine reg_sk 12 ?_ | fail
              (try simp only [Act.put, List.setIfInBounds_toArray, List.set_cons_zero, List.set_cons_succ])
              first | refine reg_tk 13 ?_ | refine reg_sk 13 ?_ | fail
              (try simp only [Act.put, List.setIfInBounds_toArray, List.set_cons_zero, List.set_cons_succ])
              first | refine reg_tk 14 ?_ | refine reg_sk 14 ?_ | fail
              (try simp only [Act.put, List.setIfInBounds_toArray, List.set_cons_zero, List.set_cons_succ])
              first | refine reg_sk 7 ?_ | (refine reg_one 7 (fun KK_ hKK_ => ?_); go_simp; (go_at_call 24; apply Calls.mono; with_reducible apply allows_st (w := w) e1; exact SZ.out; (first | assumption | exact List.mem_cons_self .. | exact List.mem_cons_of_mem _ (by assumption) | simp); (first | assumption | exact List.mem_cons_self .. | exact List.mem_cons_of_mem _ (by assumption) | simp); (first | assumption | exact List.mem_cons_self .. | exact List.mem_cons_of_mem _ (by assumption) | simp); (first | assumption | exact List.mem_cons_self .. | exact List.mem_cons_of_mem _ (by assumption) | simp); rintro e WR ⟨rfl, h1_⟩; have SZ := Aside0.mk h1_; clear h1_); refine hKK_.out _ _ (by (try dsimp only); (with_reducible exact K.out _ _ SZ.out)) (fun hHeld => ?_); clear hKK_ KK_) | fail
              (try simp only [Act.put, List.setIfInBounds_toArray, List.set_cons_zero, List.set_cons_succ])
              first | refine reg_sk 15 ?_ | (refine reg_one 15 (fun KK_ hKK_ => ?_); go_simp; (go_at_call 25; apply Calls.mono; with_reducible apply rallows_st (w := w) e1; exact SZ.out; (first | assumption | exact List.mem_cons_self .. | exact List.mem_cons_of_mem _ (by assumption) | simp); (first | assumption | exact List.mem_cons_self .. | exact List.mem_cons_of_mem _ (by assumption) | simp); (first | assumption | exact List.mem_cons_self .. | exact List.mem_cons_of_mem _ (by assumption) | simp); (first | assumption | exact List.mem_cons_self .. | exact List.mem_cons_of_mem _ (by assumption) | simp); rintro e WR ⟨rfl, h1_⟩; have SZ := Aside0.mk h1_; clear h1_); refine hKK_.out _ _ (by (try dsimp only); (with_reducible exact K.out _ _ SZ.out)) (fun hHeld => ?_); clear hKK_ KK_) | fail
              (try simp only [Act.put, List.setIfInBounds_toArray, List.set_cons_zero, List.set_cons_succ])
              first | refine reg_tk 16 ?_ | refine reg_sk 16 ?_ | fail
              (try simp only [Act.put, List.setIfInBounds_toArray, List.set_cons_zero, List.set_cons_succ])
              first | refine reg_tk 17 ?_ | refine reg_sk 17 ?_ | fail
              (try simp only [Act.put, List.setIfInBounds_toArray, List.set_cons_zero, List.set_cons_succ])
              first | refine reg_tk 18 ?_ | refine reg_sk 18 ?_ | fail
              (try simp only [Act.put, List.setIfInBounds_toArray, List.set_cons_zero, List.set_cons_succ])
              first | refine reg_tk 19 ?_ | refine reg_sk 19 ?_ | fail
              (try simp only [Act.put, List.setIfInBounds_toArray, List.set_cons_zero, List.set_cons_succ])
              first | refine reg_tk 20 ?_ | refine reg_sk 20 ?_ | fail
              (try simp only [Act.put, List.setIfInBounds_toArray, List.set_cons_zero, List.set_cons_succ])
              first | refine reg_tk 21 ?_ | refine reg_sk 21 ?_ | fail
              (try simp only [Act.put, List.setIfInBounds_toArray, List.set_cons_zero, List.set_cons_succ])
              first | refine reg_tk 22 ?_ | refine reg_sk 22 ?_ | fail
              (try simp only [Act.put, List.setIfInBounds_toArray, List.set_cons_zero, List.set_cons_succ])
              first | refine reg_tk 23 ?_ | refine reg_sk 23 ?_ | fail
              (try simp only [Act.put, List.setIfInBounds_toArray, List.set_cons_zero, List.set_cons_succ])
              first | refine reg_tk 24 ?_ | refine reg_sk 24 ?_ | fail
              (try simp only [Act.put, List.setIfInBounds_toArray, List.set_cons_zero, List.set_cons_succ])
              first | refine reg_tk 26 ?_ | refine reg_sk 26 ?_ | fail
              (try simp only [Act.put, List.setIfInBounds_toArray, List.set_cons_zero, List.set_cons_succ])
              first | refine reg_tk 27 ?_ | refine reg_sk 27 ?_ | fail
              (try simp only [Act.put, List.setIfInBounds_toArray, List.set_cons_zero, List.set_cons_succ])
              first | refine reg_tk 28 ?_ | refine reg_sk 28 ?_ | fail
              (try simp only [Act.put, List.setIfInBounds_toArray, List.set_cons_zero, List.set_cons_succ])
              first | refine reg_tk 29 ?_ | refine reg_sk 29 ?_ | fail
              (try simp only [Act.put, List.setIfInBounds_toArray, List.set_cons_zero, List.set_cons_succ])
              first | refine reg_tk 30 ?_ | refine reg_sk 30 ?_ | fail
              (try simp only [Act.put, List.setIfInBounds_toArray, List.set_cons_zero, List.set_cons_succ])
              first | refine reg_tk 31 ?_ | refine reg_sk 31 ?_ | fail
              (try simp only [Act.put, List.setIfInBounds_toArray, List.set_cons_zero, List.set_cons_succ])
              first | refine reg_tk 32 ?_ | refine reg_sk 32 ?_ | fail
              (try simp only [Act.put, List.setIfInBounds_toArray, List.set_cons_zero, List.set_cons_succ])
              first | refine reg_sk 25 ?_ | (refine reg_one 25 (fun KK_ hKK_ => ?_); go_simp; (go_at_call 24; apply Calls.mono; with_reducible apply allows_st (w := w) e1; exact SZ.out; (first | assumption | exact List.mem_cons_self .. | exact List.mem_cons_of_mem _ (by assumption) | simp); (first | assumption | exact List.mem_cons_self .. | exact List.mem_cons_of_mem _ (by assumption) | simp); (first | assumption | exact List.mem_cons_self .. | exact List.mem_cons_of_mem _ (by assumption) | simp); (first | assumption | exact List.mem_cons_self .. | exact List.mem_cons_of_mem _ (by assumption) | simp); rintro e WR ⟨rfl, h1_⟩; have SZ := Aside0.mk h1_; clear h1_); refine hKK_.out _ _ (by (try dsimp only); (with_reducible exact K.out _ _ SZ.out)) (fun hHeld => ?_); clear hKK_ KK_) | fail
              (try simp only [Act.put, List.setIfInBounds_toArray, List.set_cons_zero, List.set_cons_succ])
              first | refine reg_sk 33 ?_ | (refine reg_one 33 (fun KK_ hKK_ => ?_); go_simp; (go_at_call 25; apply Calls.mono; with_reducible apply rallows_st (w := w) e1; exact SZ.out; (first | assumption | exact List.mem_cons_self .. | exact List.mem_cons_of_mem _ (by assumption) | simp); (first | assumption | exact List.mem_cons_self .. | exact List.mem_cons_of_mem _ (by assumption) | simp); (first | assumption | exact List.mem_cons_self .. | exact List.mem_cons_of_mem _ (by assumption) | simp); (first | assumption | exact List.mem_cons_self .. | exact List.mem_cons_of_mem _ (by assumption) | simp); rintro e WR ⟨rfl, h1_⟩; have SZ := Aside0.mk h1_; clear h1_); refine hKK_.out _ _ (by (try dsimp only); (with_reducible exact K.out _ _ SZ.out)) (fun hHeld => ?_); clear hKK_ KK_) | fail
              (try simp only [Act.put, List.setIfInBounds_toArray, List.set_cons_zero, List.set_cons_succ])
              first | refine reg_tk 34 ?_ | refine reg_sk 34 ?_ | fail
              (try simp only [Act.put, List.setIfInBounds_toArray, List.set_cons_zero, List.set_cons_succ])
              first | refine reg_tk 35 ?_ | refine reg_sk 35 ?_ | fail
              (try simp only [Act.put, List.setIfInBounds_toArray, List.set_cons_zero, List.set_cons_succ])
              refine wpAnyH_done (by kernel_rfl) ?_ _
              go_wp2
              go_roundg (6 - i3)
              case rel => exact ⟨i3 + 1, (i3 : Int), rfl, ⟨⟨by omega, by omega, by omega, SZ.out⟩⟩⟩
              case measure => omega
            · have hd3 : decide (v ≤ 4) = false := decide_eq_false hi3
              have SZ := Aside0.mk (St.drew R3.out)
              have K : Aside0 (∀ (L : List (Option Addr × List Int)) (W : World), St w L [(O, CO, 23), (V1, #[.int .i64 e1.u, .slice E1 e1.after.length m1, .int .i64 e1.ap, .int .i64 e1.den], 26), (B, CS, 26), (Ba, #[.int .i64 a.u, .slice Ea a.after.length ma, .int .i64 a.ap, .int .i64 a.den], 26), (w.heap.size + 1, #[.int .i64 t0, .int .i64 t1, .int .i64 t2], 34), (w.heap.size, #[.int .i64 x0, .int .i64 x1, .int .i64 x2, .int .i64 x3], 22)] W → W.cell? ⟨V1, 0, none⟩ = some (.int .i64 e1.u) ∧ W.cell? ⟨V1, 1, none⟩ = some (.slice E1 e1.after.length m1) ∧ W.cell? ⟨V1, 2, none⟩ = some (.int .i64 e1.ap) ∧ W.cell? ⟨V1, 3, none⟩ = some (.int .i64 e1.den) ∧ W.cell? ⟨w.heap.size + 1, 0, none⟩ = some (.int .i64 t0) ∧ W.cell? ⟨w.heap.size + 1, 1, none⟩ = some (.int .i64 t1) ∧ W.cell? ⟨w.heap.size + 1, 2, none⟩ = some (.int .i64 t2)) := Aside0.mk (fun L W h => ⟨h.cell (b := V1) (cs := #[.int .i64 e1.u, .slice E1 e1.after.length m1, .int .i64 e1.ap, .int .i64 e1.den]) (t := 26) (by simp) 0, h.cell (b := V1) (cs := #[.int .i64 e1.u, .slice E1 e1.after.length m1, .int .i64 e1.ap, .int .i64 e1.den]) (t := 26) (by simp) 1, h.cell (b := V1) (cs := #[.int .i64 e1.u, .slice E1 e1.after.length m1, .int .i64 e1.ap, .int .i64 e1.den]) (t := 26) (by simp) 2, h.cell (b := V1) (cs := #[.int .i64 e1.u, .slice E1 e1.after.length m1, .int .i64 e1.ap, .int .i64 e1.den]) (t := 26) (by simp) 3, h.cell (b := w.heap.size + 1) (cs := #[.int .i64 t0, .int .i64 t1, .int .i64 t2]) (t := 34) (by simp) 0, h.cell (b := w.heap.size + 1) (cs := #[.int .i64 t0, .int .i64 t1, .int .i64 t2]) (t := 34) (by simp) 1, h.cell (b := w.heap.size + 1) (cs := #[.int .i64 t0, .int .i64 t1, .int .i64 t2]) (t := 34) (by simp) 2⟩)
              go_wp2
              refine wp_region_held_drew (S := (fun W => W.cell? ⟨V1, 0, none⟩ = some (.int .i64 e1.u) ∧ W.cell? ⟨V1, 1, none⟩ = some (.slice E1 e1.after.length m1) ∧ W.cell? ⟨V1, 2, none⟩ = some (.int .i64 e1.ap) ∧ W.cell? ⟨V1, 3, none⟩ = some (.int .i64 e1.den) ∧ W.cell? ⟨w.heap.size + 1, 0, none⟩ = some (.int .i64 t0) ∧ W.cell? ⟨w.heap.size + 1, 1, none⟩ = some (.int .i64 t1) ∧ W.cell? ⟨w.heap.size + 1, 2, none⟩ = some (.int .i64 t2))) (by kernel_rfl) (by (try dsimp only); (with_reducible exact K.out _ _ SZ.out)) (fun hHeld => ?_)
              first | refine reg_tk 0 ?_ | refine reg_sk 0 ?_ | fail
              (try simp only [Act.put, List.setIfInBounds_toArray, List.set_cons_zero, List.set_cons_succ])
              first | refine reg_tk 1 ?_ | refine reg_sk 1 ?_ | fail
              (try simp only [Act.put, List.setIfInBounds_toArray, List.set_cons_zero, List.set_cons_succ])
              first | refine reg_tk 2 ?_ | refine reg_sk 2 ?_ | fail
              (try simp only [Act.put, List.setIfInBounds_toArray, List.set_cons_zero, List.set_cons_succ])
              first | refine reg_tk 3 ?_ | refine reg_sk 3 ?_ | fail
              (try simp only [Act.put, List.setIfInBounds_toArray, List.set_cons_zero, List.set_cons_succ])
              first | refine reg_tk 4 ?_ | refine reg_sk 4 ?_ | fail
              (try simp only [Act.put, List.setIfInBounds_toArray, List.set_cons_zero, List.set_cons_succ])
              first | refine reg_tk 5 ?_ | refine reg_sk 5 ?_ | fail
              (try simp only [Act.put, List.setIfInBounds_toArray, List.set_cons_zero, List.set_cons_succ])
              first | refine reg_tk 6 ?_ | refine reg_sk 6 ?_ | fail
              (try simp only [Act.put, List.setIfInBounds_toArray, List.set_cons_zero, List.set_cons_succ])
              first | refine reg_tk 7 ?_ | refine reg_sk 7 ?_ | fail
              (try simp only [Act.put, List.setIfInBounds_toArray, List.set_cons_zero, List.set_cons_succ])
              first | refine reg_tk 9 ?_ | refine reg_sk 9 ?_ | fail
              (try simp only [Act.put, List.setIfInBounds_toArray, List.set_cons_zero, List.set_cons_succ])
              first | refine reg_tk 10 ?_ | refine reg_sk 10 ?_ | fail
              (try simp only [Act.put, List.setIfInBounds_toArray, List.set_cons_zero, List.set_cons_succ])
              first | refine reg_tk 11 ?_ | refine reg_sk 11 ?_ | fail
              (try simp only [Act.put, List.setIfInBounds_toArray, List.set_cons_zero, List.set_cons_succ])
              first | refine reg_tk 12 ?_ | refine reg_sk 12 ?_ | fail
              (try simp only [Act.put, List.setIfInBounds_toArray, List.set_cons_zero, List.set_cons_succ])
              first | refine reg_tk 13 ?_ | refine reg_sk 13 ?_ | fail
              (try simp only [Act.put, List.setIfInBounds_toArray, List.set_cons_zero, List.set_cons_succ])
              first | refine reg_tk 14 ?_ | refine reg_sk 14 ?_ | fail
              (try simp only [Act.put, List.setIfInBounds_toArray, List.set_cons_zero, List.set_cons_succ])
              first | refine reg_tk 15 ?_ | refine reg_sk 15 ?_ | fail
              (try simp only [Act.put, List.setIfInBounds_toArray, List.set_cons_zero, List.set_cons_succ])
              first | refine reg_tk 16 ?_ | refine reg_sk 16 ?_ | fail
              (try simp only [Act.put, List.setIfInBounds_toArray, List.set_cons_zero, List.set_cons_succ])
              first | refine reg_sk 8 ?_ | (refine reg_one 8 (fun KK_ hKK_ => ?_); go_simp; (go_at_call 24; apply Calls.mono; with_reducible apply allows_st (w := w) e1; exact SZ.out; (first | assumption | exact List.mem_cons_self .. | exact List.mem_cons_of_mem _ (by assumption) | simp); (first | assumption | exact List.mem_cons_self .. | exact List.mem_cons_of_mem _ (by assumption) | simp); (first | assumption | exact List.mem_cons_self .. | exact List.mem_cons_of_mem _ (by assumption) | simp); (first | assumption | exact List.mem_cons_self .. | exact List.mem_cons_of_mem _ (by assumption) | simp); rintro e WR ⟨rfl, h1_⟩; have SZ := Aside0.mk h1_; clear h1_); refine hKK_.out _ _ (by (try dsimp only); (with_reducible exact K.out _ _ SZ.out)) (fun hHeld => ?_); clear hKK_ KK_) | fail
              (try simp only [Act.put, List.setIfInBounds_toArray, List.set_cons_zero, List.set_cons_succ])
              first | refine reg_sk 17 ?_ | (refine reg_one 17 (fun KK_ hKK_ => ?_); go_simp; (go_at_call 25; apply Calls.mono; with_reducible apply rallows_st (w := w) e1; exact SZ.out; (first | assumption | exact List.mem_cons_self .. | exact List.mem_cons_of_mem _ (by assumption) | simp); (first | assumption | exact List.mem_cons_self .. | exact List.mem_cons_of_mem _ (by assumption) | simp); (first | assumption | exact List.mem_cons_self .. | exact List.mem_cons_of_mem _ (by assumption) | simp); (first | assumption | exact List.mem_cons_self .. | exact List.mem_cons_of_mem _ (by assumption) | simp); rintro e WR ⟨rfl, h1_⟩; have SZ := Aside0.mk h1_; clear h1_); refine hKK_.out _ _ (by (try dsimp only); (with_reducible exact K.out _ _ SZ.out)) (fun hHeld => ?_); clear hKK_ KK_) | fail
              (try simp only [Act.put, List.setIfInBounds_toArray, List.set_cons_zero, List.set_cons_succ])
              first | refine reg_tk 18 ?_ | refine reg_sk 18 ?_ | fail
              (try simp only [Act.put, List.setIfInBounds_toArray, List.set_cons_zero, List.set_cons_succ])
              refine wpAnyH_done (by kernel_rfl) ?_ _
              go_wp2
              go_roundg (4 - i2)
              case rel => exact ⟨i2 + 1, by simp, ⟨⟨by omega, by omega, SZ.out⟩⟩⟩
              case measure => omega
        · obtain rfl : i2 = 4 := by omega
          go_wp2
          go_roundg (3 - i1)
          case rel => exact ⟨i1 + 1, by simp, ⟨⟨by omega, by omega, R2.out.tail.tail⟩⟩⟩
          case measure => omega
    · obtain rfl : i1 = 3 := by omega
      go_wp2
      go_ret
      exact ⟨rfl, R1.out.bel⟩
end Go.Proofs.Ytngckofkbkhomaa
