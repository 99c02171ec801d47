/- The walk of the law LabelMatchesReference: it tells true. -/
import Derived.Test.YtngckofkbkhomaaHLabSane
import Derived.Deep.RegionHeld3
import Derived.Test.YtngckofkbkhomaaHLabRaw2
import Derived.Test.YtngckofkbkhomaaHLabRef2
namespace Go.Proofs.Ytngckofkbkhomaa
open Go.RowKit Go.Lib Go.Proofs.Ytngckofkbkhomaa.PBase Go.Proofs.YtngckofkbkhomaaW.PrintWords Go.Proofs.YtngckofkbkhomaaW.PrintLast Go.Proofs.YtngckofkbkhomaaW.PrintMore
set_option linter.unusedVariables false
set_option linter.unusedSimpArgs false
theorem rvalid_st {w W : World} {L : List (Option Addr × List Int)} {M : List (Nat × Array Value × TypeId)} (x : Lab) (A : Option Addr) (c : Nat) (h : St w L M W) (hm : (A, x.after) ∈ L) (hc : x.after.length ≤ c) :
    Calls Try.prog 17 #[.agg #[.int .i64 x.u, .slice A x.after.length c, .int .i64 x.ap, .int .i64 x.den]] W fun e w' => e = .returned (.bool (Lab.valid x)) ∧ St w L M w' := by
  obtain ⟨k, hk⟩ := (rvalid_ev x (h.get hm).2.1).rounds
  refine (copydeskref02_Valid.calls k x.u A c x.after x.ap x.den _ W (h.get hm) hc hk).mono ?_
  rintro e w' ⟨rfl, hb⟩
  exact ⟨rfl, h.step hb⟩
theorem rsame_st {w W : World} {L : List (Option Addr × List Int)} {M : List (Nat × Array Value × TypeId)} (x y : Lab) (A B : Option Addr) (c d : Nat) (h : St w L M W) (hx : (A, x.after) ∈ L) (hc : x.after.length ≤ c) (hy : (B, y.after) ∈ L) (hd : y.after.length ≤ d) :
    Calls Try.prog 19 #[.agg #[.int .i64 x.u, .slice A x.after.length c, .int .i64 x.ap, .int .i64 x.den], .agg #[.int .i64 y.u, .slice B y.after.length d, .int .i64 y.ap, .int .i64 y.den]] W fun e w' => e = .returned (.bool (decide (x = y))) ∧ St w L M w' := by
  obtain ⟨k, hk⟩ := (rsame_ev x y (h.get hx).2.1).rounds
  refine (copydeskref02_Same.calls k x.u A c x.after x.ap x.den y.u B d y.after y.ap y.den _ W (h.get hx) hc (h.get hy) hd hk).mono ?_
  rintro e w' ⟨rfl, hb⟩
  exact ⟨rfl, h.step hb⟩
theorem rleq_st {w W : World} {L : List (Option Addr × List Int)} {M : List (Nat × Array Value × TypeId)} (x y : Lab) (A B : Option Addr) (c d : Nat) (h : St w L M W) (hx : (A, x.after) ∈ L) (hc : x.after.length ≤ c) (hy : (B, y.after) ∈ L) (hd : y.after.length ≤ d) :
    Calls Try.prog 21 #[.agg #[.int .i64 x.u, .slice A x.after.length c, .int .i64 x.ap, .int .i64 x.den], .agg #[.int .i64 y.u, .slice B y.after.length d, .int .i64 y.ap, .int .i64 y.den]] W fun e w' => e = .returned (.bool (Lab.leq x y)) ∧ St w L M w' := by
  obtain ⟨k, hk⟩ := (rleq_ev x y (h.get hx).2.1 (h.get hy).2.1).rounds
  refine (copydeskref02_Leq.calls k x.u A c x.after x.ap x.den y.u B d y.after y.ap y.den _ W (h.get hx) hc (h.get hy) hd hk).mono ?_
  rintro e w' ⟨rfl, hb⟩
  exact ⟨rfl, h.step hb⟩
theorem rjoin_st {w W : World} {L : List (Option Addr × List Int)} {M : List (Nat × Array Value × TypeId)} (x y : Lab) (A B : Option Addr) (c d : Nat) (h : St w L M W) (hx : (A, x.after) ∈ L) (hc : x.after.length ≤ c) (hy : (B, y.after) ∈ L) (hd : y.after.length ≤ d) :
    Calls Try.prog 23 #[.agg #[.int .i64 x.u, .slice A x.after.length c, .int .i64 x.ap, .int .i64 x.den], .agg #[.int .i64 y.u, .slice B y.after.length d, .int .i64 y.ap, .int .i64 y.den]] W fun e w' =>
      ∃ E m, e = .returned (.agg #[.int .i64 (Lab.join x y).u, .slice E (Lab.join x y).after.length m, .int .i64 (Lab.join x y).ap, .int .i64 (Lab.join x y).den]) ∧ (Lab.join x y).after.length ≤ m ∧ St w ((E, (Lab.join x y).after) :: L) M w' := by
  obtain ⟨k, hk⟩ := (rjoin_ev x y (h.get hx).2.1 (h.get hy).2.1).rounds
  refine (copydeskref02_Join.calls k x.u A c x.after x.ap x.den y.u B d y.after y.ap y.den _ _ _ _ W (h.get hx) hc (h.get hy) hd hk).mono ?_
  rintro e w' ⟨v, rfl, hR, hb⟩
  obtain ⟨E, m, rfl, hm, hC⟩ := Kd.R_reads hR
  exact ⟨E, m, rfl, hm, (h.step hb).add hC⟩
set_option maxHeartbeats 64000000 in
set_option maxRecDepth 100000 in
theorem labelmatchesreference_calls (w : World) (x0 x1 x2 x3 y0 y1 y2 y3 : Int) (A : Option Addr) (c : Nat) (lf : List Int) (hx : Rng x0 ∧ Rng x2 ∧ Rng x3) (hy : Rng y0 ∧ Rng y2 ∧ Rng y3) (hr : Kd.C (Kd.int .i64) w A lf.length lf) (hc : lf.length ≤ c) (hcm : c ≤ 9223372036854775807) :
    Calls Try.prog 3 #[.agg #[.int .i64 x0, .int .i64 x1, .int .i64 x2, .int .i64 x3], .agg #[.int .i64 y0, .int .i64 y1, .int .i64 y2, .int .i64 y3], .slice A lf.length c] w fun e w' => e = .returned (.bool true) ∧ Below w.heap.size w w' := by
  have hu := Try.underlying26
  have hu2 := Try.underlying22
  obtain ⟨hx0, hx2, hx3⟩ := hx
  obtain ⟨hy0, hy2, hy3⟩ := hy
  have S0 := Aside0.mk (St.add (St.start w) hr)
  obtain ⟨a, ha⟩ : ∃ a, mk x0 x1 x2 x3 = a := ⟨_, rfl⟩
  have oa := Aside0.mk (ha ▸ mk_ok x0 x1 x2 x3 : Lab.Ok a)
  obtain ⟨b, hb⟩ : ∃ b, mk y0 y1 y2 y3 = b := ⟨_, rfl⟩
  have ob := Aside0.mk (hb ▸ mk_ok y0 y1 y2 y3 : Lab.Ok b)
  clear hr
  obtain ⟨p, hp1, hp2, hp3, hp4⟩ : ∃ r : Lab, x0 = r.u ∧ lf.take 80 = r.after ∧ x2 = r.ap ∧ x3 = r.den := ⟨⟨x0, lf.take 80, x2, x3⟩, rfl, rfl, rfl, rfl⟩
  have Hp := Aside0.mk (And.intro hp1 (And.intro hp2 (And.intro hp3 hp4)))
  clear hp1 hp2 hp3 hp4
  obtain ⟨q, hq1, hq2, hq3, hq4⟩ : ∃ r : Lab, y0 = r.u ∧ lf.take 80 = r.after ∧ y2 = r.ap ∧ y3 = r.den := ⟨⟨y0, lf.take 80, y2, y3⟩, rfl, rfl, rfl, rfl⟩
  have Hq := Aside0.mk (And.intro hq1 (And.intro hq2 (And.intro hq3 hq4)))
  clear hq1 hq2 hq3 hq4
  obtain ⟨s, hs1, hs2, hs3, hs4⟩ : ∃ r : Lab, 1 = r.u ∧ lf.take 80 = r.after ∧ 1 = r.ap ∧ 1 = r.den := ⟨⟨1, lf.take 80, 1, 1⟩, rfl, rfl, rfl, rfl⟩
  have Hs := Aside0.mk (And.intro hs1 (And.intro hs2 (And.intro hs3 hs4)))
  clear hs1 hs2 hs3 hs4
  go_enter Try.func3, Try.ntmps3
  go_upto_region 3 with (first | (have G_ := S0; clear G_; go_at_call 13; apply Calls.mono; apply sane_st (w := w); apply St.box; apply St.box; exact S0.out; rintro e WS1 ⟨rfl, h1_⟩; (try simp only [World.size_alloc] at h1_); have S1 := Aside0.mk h1_; clear h1_; have xc0 := S1.out.cell (b := w.heap.size) (cs := #[.int .i64 x0, .int .i64 x1, .int .i64 x2, .int .i64 x3]) (t := 22) (by simp) 0; have xc1 := S1.out.cell (b := w.heap.size) (cs := #[.int .i64 x0, .int .i64 x1, .int .i64 x2, .int .i64 x3]) (t := 22) (by simp) 1; have xc2 := S1.out.cell (b := w.heap.size) (cs := #[.int .i64 x0, .int .i64 x1, .int .i64 x2, .int .i64 x3]) (t := 22) (by simp) 2; have xc3 := S1.out.cell (b := w.heap.size) (cs := #[.int .i64 x0, .int .i64 x1, .int .i64 x2, .int .i64 x3]) (t := 22) (by simp) 3; have xn := World.new_ne WS1 ⟨w.heap.size, 0, none⟩ xc0; have xm := fun (o : Obj) (j : Nat) => World.cell?_alloc_lt WS1 o ⟨w.heap.size, j, none⟩ (World.block_lt_of_cell? WS1 ⟨w.heap.size, 0, none⟩ xc0); have yc0 := S1.out.cell (b := w.heap.size + 1) (cs := #[.int .i64 y0, .int .i64 y1, .int .i64 y2, .int .i64 y3]) (t := 22) (by simp) 0; have yc1 := S1.out.cell (b := w.heap.size + 1) (cs := #[.int .i64 y0, .int .i64 y1, .int .i64 y2, .int .i64 y3]) (t := 22) (by simp) 1; have yc2 := S1.out.cell (b := w.heap.size + 1) (cs := #[.int .i64 y0, .int .i64 y1, .int .i64 y2, .int .i64 y3]) (t := 22) (by simp) 2; have yc3 := S1.out.cell (b := w.heap.size + 1) (cs := #[.int .i64 y0, .int .i64 y1, .int .i64 y2, .int .i64 y3]) (t := 22) (by simp) 3; have yn := World.new_ne WS1 ⟨w.heap.size + 1, 0, none⟩ yc0; have ym := fun (o : Obj) (j : Nat) => World.cell?_alloc_lt WS1 o ⟨w.heap.size + 1, j, none⟩ (World.block_lt_of_cell? WS1 ⟨w.heap.size + 1, 0, none⟩ yc0)))
  have SS := Aside0.mk (St.drew S1.out)
  clear S0 S1
  clear xc0 xc1 xc2 xc3 yc0 yc1 yc2 yc3 xn xm yn ym
  have K : Aside0 (∀ (L : List (Option Addr × List Int)) (W : World), St w L [(w.heap.size + 1, #[.int .i64 y0, .int .i64 y1, .int .i64 y2, .int .i64 y3], 22), (w.heap.size, #[.int .i64 x0, .int .i64 x1, .int .i64 x2, .int .i64 x3], 22)] W → W.cell? ⟨w.heap.size + 1, 0, none⟩ = some (.int .i64 y0) ∧ W.cell? ⟨w.heap.size + 1, 1, none⟩ = some (.int .i64 y1) ∧ W.cell? ⟨w.heap.size + 1, 2, none⟩ = some (.int .i64 y2) ∧ W.cell? ⟨w.heap.size + 1, 3, none⟩ = some (.int .i64 y3) ∧ W.cell? ⟨w.heap.size, 0, none⟩ = some (.int .i64 x0) ∧ W.cell? ⟨w.heap.size, 1, none⟩ = some (.int .i64 x1) ∧ W.cell? ⟨w.heap.size, 2, none⟩ = some (.int .i64 x2) ∧ W.cell? ⟨w.heap.size, 3, none⟩ = some (.int .i64 x3)) := Aside0.mk (fun L W h => ⟨h.cell (b := w.heap.size + 1) (cs := #[.int .i64 y0, .int .i64 y1, .int .i64 y2, .int .i64 y3]) (t := 22) (by simp) 0, h.cell (b := w.heap.size + 1) (cs := #[.int .i64 y0, .int .i64 y1, .int .i64 y2, .int .i64 y3]) (t := 22) (by simp) 1, h.cell (b := w.heap.size + 1) (cs := #[.int .i64 y0, .int .i64 y1, .int .i64 y2, .int .i64 y3]) (t := 22) (by simp) 2, h.cell (b := w.heap.size + 1) (cs := #[.int .i64 y0, .int .i64 y1, .int .i64 y2, .int .i64 y3]) (t := 22) (by simp) 3, h.cell (b := w.heap.size) (cs := #[.int .i64 x0, .int .i64 x1, .int .i64 x2, .int .i64 x3]) (t := 22) (by simp) 0, h.cell (b := w.heap.size) (cs := #[.int .i64 x0, .int .i64 x1, .int .i64 x2, .int .i64 x3]) (t := 22) (by simp) 1, h.cell (b := w.heap.size) (cs := #[.int .i64 x0, .int .i64 x1, .int .i64 x2, .int .i64 x3]) (t := 22) (by simp) 2, h.cell (b := w.heap.size) (cs := #[.int .i64 x0, .int .i64 x1, .int .i64 x2, .int .i64 x3]) (t := 22) (by simp) 3⟩)
  first | go_region_held3 (fun W => W.cell? ⟨w.heap.size + 1, 0, none⟩ = some (.int .i64 y0) ∧ W.cell? ⟨w.heap.size + 1, 1, none⟩ = some (.int .i64 y1) ∧ W.cell? ⟨w.heap.size + 1, 2, none⟩ = some (.int .i64 y2) ∧ W.cell? ⟨w.heap.size + 1, 3, none⟩ = some (.int .i64 y3) ∧ W.cell? ⟨w.heap.size, 0, none⟩ = some (.int .i64 x0) ∧ W.cell? ⟨w.heap.size, 1, none⟩ = some (.int .i64 x1) ∧ W.cell? ⟨w.heap.size, 2, none⟩ = some (.int .i64 x2) ∧ W.cell? ⟨w.heap.size, 3, none⟩ = some (.int .i64 x3)) (first | with_reducible exact K.out _ _ SS.out | with_reducible exact K.out _ _ (St.alloc SS.out _) | go_keep) (first | (go_at_call 14; apply Calls.mono; with_reducible apply make_st (w := w) x0 x1 x2 x3; exact SS.out; (first | assumption | simp); (first | assumption | simp); (first | assumption | simp); rintro e WR ⟨Ea, ma, rfl, hma, h1_⟩; rw [ha] at hma h1_ ⊢; have SS := Aside0.mk h1_; clear h1_) | (go_at_call 14; apply Calls.mono; with_reducible apply make_st (w := w) y0 y1 y2 y3; exact SS.out; (first | assumption | simp); (first | assumption | simp); (first | assumption | simp); rintro e WR ⟨Eb, mb, rfl, hmb, h1_⟩; rw [hb] at hmb h1_ ⊢; have SS := Aside0.mk h1_; clear h1_) | (go_at_call 15; apply Calls.mono; with_reducible apply raw_st (w := w) x0 x1 x2 x3 A c lf p Hp.out.1 Hp.out.2.1 Hp.out.2.2.1 Hp.out.2.2.2 hcm; exact SS.out; (first | assumption | simp); (first | assumption | simp); rintro e WR ⟨Ep, mp, rfl, hmp, h1_⟩; have SS := Aside0.mk h1_; clear h1_) | (go_at_call 15; apply Calls.mono; with_reducible apply raw_st (w := w) y0 y1 y2 y3 A c lf q Hq.out.1 Hq.out.2.1 Hq.out.2.2.1 Hq.out.2.2.2 hcm; exact SS.out; (first | assumption | simp); (first | assumption | simp); rintro e WR ⟨Eq, mq, rfl, hmq, h1_⟩; have SS := Aside0.mk h1_; clear h1_) | (go_at_call 15; apply Calls.mono; with_reducible apply raw_st (w := w) 1 0 1 1 A c lf s Hs.out.1 Hs.out.2.1 Hs.out.2.2.1 Hs.out.2.2.2 hcm; exact SS.out; (first | assumption | simp); (first | assumption | simp); rintro e WR ⟨Es, ms, rfl, hms, h1_⟩; have SS := Aside0.mk h1_; clear h1_)) | fail
  have SB := St.nil (St.box SS.out #[.int .i64 a.u, .slice Ea a.after.length ma, .int .i64 a.ap, .int .i64 a.den, .int .i64 b.u, .slice Eb b.after.length mb, .int .i64 b.ap, .int .i64 b.den, .int .i64 p.u, .slice Ep p.after.length mp, .int .i64 p.ap, .int .i64 p.den, .int .i64 q.u, .slice Eq q.after.length mq, .int .i64 q.ap, .int .i64 q.den, .int .i64 s.u, .slice Es s.after.length ms, .int .i64 s.ap, .int .i64 s.den, .int .i64 0, .slice none 0 0, .int .i64 0, .int .i64 0] 26)
  clear SS K
  obtain ⟨B, hB⟩ : ∃ B, WR.heap.size = B := ⟨_, rfl⟩
  generalize WR.alloc (.cells #[.int .i64 a.u, .slice Ea a.after.length ma, .int .i64 a.ap, .int .i64 a.den, .int .i64 b.u, .slice Eb b.after.length mb, .int .i64 b.ap, .int .i64 b.den, .int .i64 p.u, .slice Ep p.after.length mp, .int .i64 p.ap, .int .i64 p.den, .int .i64 q.u, .slice Eq q.after.length mq, .int .i64 q.ap, .int .i64 q.den, .int .i64 s.u, .slice Es s.after.length ms, .int .i64 s.ap, .int .i64 s.den, .int .i64 0, .slice none 0 0, .int .i64 0, .int .i64 0] 26) = WY at SB ⊢
  rw [hB] at SB ⊢
  have SY : Aside0 (St w [(none, []), (Es, s.after), (Eq, q.after), (Ep, p.after), (Eb, b.after), (Ea, a.after), (A, lf)] [(B, #[.int .i64 a.u, .slice Ea a.after.length ma, .int .i64 a.ap, .int .i64 a.den, .int .i64 b.u, .slice Eb b.after.length mb, .int .i64 b.ap, .int .i64 b.den, .int .i64 p.u, .slice Ep p.after.length mp, .int .i64 p.ap, .int .i64 p.den, .int .i64 q.u, .slice Eq q.after.length mq, .int .i64 q.ap, .int .i64 q.den, .int .i64 s.u, .slice Es s.after.length ms, .int .i64 s.ap, .int .i64 s.den, .int .i64 0, .slice none 0 0, .int .i64 0, .int .i64 0], 26)] WY) := Aside0.mk (SB.sub (fun p hp => hp) (by simp))
  clear SB hB
  have TB : Aside0 (∀ i, i < 6 → ∃ x E m, EntryR w [(none, []), (Es, s.after), (Eq, q.after), (Ep, p.after), (Eb, b.after), (Ea, a.after), (A, lf)] B #[.int .i64 a.u, .slice Ea a.after.length ma, .int .i64 a.ap, .int .i64 a.den, .int .i64 b.u, .slice Eb b.after.length mb, .int .i64 b.ap, .int .i64 b.den, .int .i64 p.u, .slice Ep p.after.length mp, .int .i64 p.ap, .int .i64 p.den, .int .i64 q.u, .slice Eq q.after.length mq, .int .i64 q.ap, .int .i64 q.den, .int .i64 s.u, .slice Es s.after.length ms, .int .i64 s.ap, .int .i64 s.den, .int .i64 0, .slice none 0 0, .int .i64 0, .int .i64 0] 26 i x E m) := Aside0.mk (fun i hi => entryR_at [(a, Ea, ma), (b, Eb, mb), (p, Ep, mp), (q, Eq, mq), (s, Es, ms), (Lab.zero, none, 0)] rfl (by
    intro p hp
    simp only [List.mem_cons, List.not_mem_nil, or_false] at hp
    rcases hp with rfl | rfl | rfl | rfl | rfl | rfl
    · exact ⟨by simp [Lab.zero], by first | assumption | simp [Lab.zero]⟩
    · exact ⟨by simp [Lab.zero], by first | assumption | simp [Lab.zero]⟩
    · exact ⟨by simp [Lab.zero], by first | assumption | simp [Lab.zero]⟩
    · exact ⟨by simp [Lab.zero], by first | assumption | simp [Lab.zero]⟩
    · exact ⟨by simp [Lab.zero], by first | assumption | simp [Lab.zero]⟩
    · exact ⟨by simp [Lab.zero], by first | assumption | simp [Lab.zero]⟩) i hi)
  generalize ([(none, []), (Es, s.after), (Eq, q.after), (Ep, p.after), (Eb, b.after), (Ea, a.after), (A, lf)] : List (Option Addr × List Int)) = LL at SY TB
  generalize (#[.int .i64 a.u, .slice Ea a.after.length ma, .int .i64 a.ap, .int .i64 a.den, .int .i64 b.u, .slice Eb b.after.length mb, .int .i64 b.ap, .int .i64 b.den, .int .i64 p.u, .slice Ep p.after.length mp, .int .i64 p.ap, .int .i64 p.den, .int .i64 q.u, .slice Eq q.after.length mq, .int .i64 q.ap, .int .i64 q.den, .int .i64 s.u, .slice Es s.after.length ms, .int .i64 s.ap, .int .i64 s.den, .int .i64 0, .slice none 0 0, .int .i64 0, .int .i64 0] : Array Value) = CS at SY TB
  go_wp2
  go_loopg [31] 7 (fun gk v31 w' => ∃ i1 : Nat, v31 = .int .i64 i1 ∧ Aside0 (i1 ≤ 6 ∧ gk = 6 - i1 + 1 ∧ St w LL [(B, CS, 26)] w'))
  case atStart => exact ⟨0, rfl, ⟨⟨by omega, by omega, SY.out⟩⟩⟩
  case round =>
    obtain ⟨i1, rfl, HI⟩ := hrel
    obtain ⟨hl1, hg1, SR⟩ := HI.out
    clear HI
    have R1 := Aside0.mk SR
    clear SR
    by_cases hi1 : i1 < 6
    · have hd1 : decide ((i1 : Int) < 6) = true := decide_eq_true (by omega)
      obtain ⟨e1, E1, m1, hent⟩ := TB.out i1 hi1
      have hrow1 := hent.row
      have hcap1 := hent.cap
      obtain ⟨ec0, ec1, ec2, ec3⟩ := hent.cells _ _ _ (by simp) R1.out
      clear hent
      go_upto_region 7 with fail
      have SB_ := St.box R1.out #[.int .i64 e1.u, .slice E1 e1.after.length m1, .int .i64 e1.ap, .int .i64 e1.den] 26
      obtain ⟨V1, hV1⟩ : ∃ V1, wr.heap.size = V1 := ⟨_, rfl⟩
      rw [hV1] at SB_ ⊢
      generalize wr.alloc (.cells #[.int .i64 e1.u, .slice E1 e1.after.length m1, .int .i64 e1.ap, .int .i64 e1.den] 26) = WV1 at SB_ ⊢
      have SV1 := Aside0.mk (St.drew SB_)
      clear SB_ hV1 ec0 ec1 ec2 ec3
      have K : Aside0 (∀ (L : List (Option Addr × List Int)) (W : World), St w L [(V1, #[.int .i64 e1.u, .slice E1 e1.after.length m1, .int .i64 e1.ap, .int .i64 e1.den], 26), (B, CS, 26)] W → W.cell? ⟨V1, 0, none⟩ = some (.int .i64 e1.u) ∧ W.cell? ⟨V1, 1, none⟩ = some (.slice E1 e1.after.length m1) ∧ W.cell? ⟨V1, 2, none⟩ = some (.int .i64 e1.ap) ∧ W.cell? ⟨V1, 3, none⟩ = some (.int .i64 e1.den)) := Aside0.mk (fun L W h => ⟨h.cell (b := V1) (cs := #[.int .i64 e1.u, .slice E1 e1.after.length m1, .int .i64 e1.ap, .int .i64 e1.den]) (t := 26) (by simp) 0, h.cell (b := V1) (cs := #[.int .i64 e1.u, .slice E1 e1.after.length m1, .int .i64 e1.ap, .int .i64 e1.den]) (t := 26) (by simp) 1, h.cell (b := V1) (cs := #[.int .i64 e1.u, .slice E1 e1.after.length m1, .int .i64 e1.ap, .int .i64 e1.den]) (t := 26) (by simp) 2, h.cell (b := V1) (cs := #[.int .i64 e1.u, .slice E1 e1.after.length m1, .int .i64 e1.ap, .int .i64 e1.den]) (t := 26) (by simp) 3⟩)
      refine wp_region_held_drew (S := (fun W => W.cell? ⟨V1, 0, none⟩ = some (.int .i64 e1.u) ∧ W.cell? ⟨V1, 1, none⟩ = some (.slice E1 e1.after.length m1) ∧ W.cell? ⟨V1, 2, none⟩ = some (.int .i64 e1.ap) ∧ W.cell? ⟨V1, 3, none⟩ = some (.int .i64 e1.den))) (by kernel_rfl) (by (try dsimp only); (with_reducible exact K.out _ _ SV1.out)) (fun hHeld => ?_)
      first | refine reg_tk 0 ?_ | refine reg_sk 0 ?_ | fail
      (try simp only [Act.put, List.setIfInBounds_toArray, List.set_cons_zero, List.set_cons_succ])
      first | refine reg_tk 2 ?_ | refine reg_sk 2 ?_ | fail
      (try simp only [Act.put, List.setIfInBounds_toArray, List.set_cons_zero, List.set_cons_succ])
      first | refine reg_sk 1 ?_ | (refine reg_one 1 (fun KK_ hKK_ => ?_); go_simp; (go_at_call 16; apply Calls.mono; with_reducible apply valid_st (w := w) e1; exact SV1.out; (first | assumption | exact List.mem_cons_self .. | exact List.mem_cons_of_mem _ (by assumption) | simp); (first | assumption | exact List.mem_cons_self .. | exact List.mem_cons_of_mem _ (by assumption) | simp); rintro e WR ⟨rfl, h1_⟩; have SV1 := Aside0.mk h1_; clear h1_); refine hKK_.out _ _ (by (try dsimp only); (with_reducible exact K.out _ _ SV1.out)) (fun hHeld => ?_); clear hKK_ KK_) | fail
      (try simp only [Act.put, List.setIfInBounds_toArray, List.set_cons_zero, List.set_cons_succ])
      first | refine reg_sk 3 ?_ | (refine reg_one 3 (fun KK_ hKK_ => ?_); go_simp; (go_at_call 17; apply Calls.mono; with_reducible apply rvalid_st (w := w) e1; exact SV1.out; (first | assumption | exact List.mem_cons_self .. | exact List.mem_cons_of_mem _ (by assumption) | simp); (first | assumption | exact List.mem_cons_self .. | exact List.mem_cons_of_mem _ (by assumption) | simp); rintro e WR ⟨rfl, h1_⟩; have SV1 := Aside0.mk h1_; clear h1_); refine hKK_.out _ _ (by (try dsimp only); (with_reducible exact K.out _ _ SV1.out)) (fun hHeld => ?_); clear hKK_ KK_) | fail
      (try simp only [Act.put, List.setIfInBounds_toArray, List.set_cons_zero, List.set_cons_succ])
      first | refine reg_tk 4 ?_ | refine reg_sk 4 ?_ | fail
      (try simp only [Act.put, List.setIfInBounds_toArray, List.set_cons_zero, List.set_cons_succ])
      refine wpAnyH_done (by kernel_rfl) ?_ _
      clear K hHeld
      go_wp2
      go_loopg [42] 7 (fun gk v42 w' => ∃ i2 : Nat, v42 = .int .i64 i2 ∧ Aside0 (i2 ≤ 6 ∧ gk = 6 - i2 + 1 ∧ St w LL [(V1, #[.int .i64 e1.u, .slice E1 e1.after.length m1, .int .i64 e1.ap, .int .i64 e1.den], 26), (B, CS, 26)] w'))
      case atStart => exact ⟨0, rfl, ⟨⟨by omega, by omega, SV1.out⟩⟩⟩
      case round =>
        obtain ⟨i2, rfl, HI⟩ := hrel
        obtain ⟨hl2, hg2, SR⟩ := HI.out
        clear HI
        have R2 := Aside0.mk SR
        clear SR
        by_cases hi2 : i2 < 6
        · have hd2 : decide ((i2 : Int) < 6) = true := decide_eq_true (by omega)
          obtain ⟨e2, E2, m2, hent⟩ := TB.out i2 hi2
          have hrow2 := hent.row
          have hcap2 := hent.cap
          obtain ⟨ec0, ec1, ec2, ec3⟩ := hent.cells _ _ _ (by simp) R2.out
          clear hent
          go_upto_region 12 with fail
          have SB_ := St.box R2.out #[.int .i64 e2.u, .slice E2 e2.after.length m2, .int .i64 e2.ap, .int .i64 e2.den] 26
          obtain ⟨V2, hV2⟩ : ∃ V2, wr.heap.size = V2 := ⟨_, rfl⟩
          rw [hV2] at SB_ ⊢
          generalize wr.alloc (.cells #[.int .i64 e2.u, .slice E2 e2.after.length m2, .int .i64 e2.ap, .int .i64 e2.den] 26) = WV2 at SB_ ⊢
          have SV2 := Aside0.mk (St.drew SB_)
          clear SB_ hV2 ec0 ec1 ec2 ec3
          have K : Aside0 (∀ (L : List (Option Addr × List Int)) (W : World), St w L [(V2, #[.int .i64 e2.u, .slice E2 e2.after.length m2, .int .i64 e2.ap, .int .i64 e2.den], 26), (V1, #[.int .i64 e1.u, .slice E1 e1.after.length m1, .int .i64 e1.ap, .int .i64 e1.den], 26), (B, CS, 26)] W → W.cell? ⟨V2, 0, none⟩ = some (.int .i64 e2.u) ∧ W.cell? ⟨V2, 1, none⟩ = some (.slice E2 e2.after.length m2) ∧ W.cell? ⟨V2, 2, none⟩ = some (.int .i64 e2.ap) ∧ W.cell? ⟨V2, 3, none⟩ = some (.int .i64 e2.den) ∧ W.cell? ⟨V1, 0, none⟩ = some (.int .i64 e1.u) ∧ W.cell? ⟨V1, 1, none⟩ = some (.slice E1 e1.after.length m1) ∧ W.cell? ⟨V1, 2, none⟩ = some (.int .i64 e1.ap) ∧ W.cell? ⟨V1, 3, none⟩ = some (.int .i64 e1.den)) := Aside0.mk (fun L W h => ⟨h.cell (b := V2) (cs := #[.int .i64 e2.u, .slice E2 e2.after.length m2, .int .i64 e2.ap, .int .i64 e2.den]) (t := 26) (by simp) 0, h.cell (b := V2) (cs := #[.int .i64 e2.u, .slice E2 e2.after.length m2, .int .i64 e2.ap, .int .i64 e2.den]) (t := 26) (by simp) 1, h.cell (b := V2) (cs := #[.int .i64 e2.u, .slice E2 e2.after.length m2, .int .i64 e2.ap, .int .i64 e2.den]) (t := 26) (by simp) 2, h.cell (b := V2) (cs := #[.int .i64 e2.u, .slice E2 e2.after.length m2, .int .i64 e2.ap, .int .i64 e2.den]) (t := 26) (by simp) 3, h.cell (b := V1) (cs := #[.int .i64 e1.u, .slice E1 e1.after.length m1, .int .i64 e1.ap, .int .i64 e1.den]) (t := 26) (by simp) 0, h.cell (b := V1) (cs := #[.int .i64 e1.u, .slice E1 e1.after.length m1, .int .i64 e1.ap, .int .i64 e1.den]) (t := 26) (by simp) 1, h.cell (b := V1) (cs := #[.int .i64 e1.u, .slice E1 e1.after.length m1, .int .i64 e1.ap, .int .i64 e1.den]) (t := 26) (by simp) 2, h.cell (b := V1) (cs := #[.int .i64 e1.u, .slice E1 e1.after.length m1, .int .i64 e1.ap, .int .i64 e1.den]) (t := 26) (by simp) 3⟩)
          refine wp_region_held_drew (S := (fun W => W.cell? ⟨V2, 0, none⟩ = some (.int .i64 e2.u) ∧ W.cell? ⟨V2, 1, none⟩ = some (.slice E2 e2.after.length m2) ∧ W.cell? ⟨V2, 2, none⟩ = some (.int .i64 e2.ap) ∧ W.cell? ⟨V2, 3, none⟩ = some (.int .i64 e2.den) ∧ W.cell? ⟨V1, 0, none⟩ = some (.int .i64 e1.u) ∧ W.cell? ⟨V1, 1, none⟩ = some (.slice E1 e1.after.length m1) ∧ W.cell? ⟨V1, 2, none⟩ = some (.int .i64 e1.ap) ∧ W.cell? ⟨V1, 3, none⟩ = some (.int .i64 e1.den))) (by kernel_rfl) (by (try dsimp only); (with_reducible exact K.out _ _ SV2.out)) (fun hHeld => ?_)
          first | refine reg_tk 0 ?_ | refine reg_sk 0 ?_ | fail
          (try simp only [Act.put, List.setIfInBounds_toArray, List.set_cons_zero, List.set_cons_succ])
          first | refine reg_tk 1 ?_ | refine reg_sk 1 ?_ | fail
          (try simp only [Act.put, List.setIfInBounds_toArray, List.set_cons_zero, List.set_cons_succ])
          first | refine reg_tk 3 ?_ | refine reg_sk 3 ?_ | fail
          (try simp only [Act.put, List.setIfInBounds_toArray, List.set_cons_zero, List.set_cons_succ])
          first | refine reg_tk 4 ?_ | refine reg_sk 4 ?_ | fail
          (try simp only [Act.put, List.setIfInBounds_toArray, List.set_cons_zero, List.set_cons_succ])
          first | refine reg_sk 2 ?_ | (refine reg_one 2 (fun KK_ hKK_ => ?_); go_simp; (go_at_call 18; apply Calls.mono; with_reducible apply same_st (w := w) e1 e2; exact SV2.out; (first | assumption | exact List.mem_cons_self .. | exact List.mem_cons_of_mem _ (by assumption) | simp); (first | assumption | exact List.mem_cons_self .. | exact List.mem_cons_of_mem _ (by assumption) | simp); (first | assumption | exact List.mem_cons_self .. | exact List.mem_cons_of_mem _ (by assumption) | simp); (first | assumption | exact List.mem_cons_self .. | exact List.mem_cons_of_mem _ (by assumption) | simp); rintro e WR ⟨rfl, h1_⟩; have SV2 := Aside0.mk h1_; clear h1_); refine hKK_.out _ _ (by (try dsimp only); (with_reducible exact K.out _ _ SV2.out)) (fun hHeld => ?_); clear hKK_ KK_) | fail
          (try simp only [Act.put, List.setIfInBounds_toArray, List.set_cons_zero, List.set_cons_succ])
          first | refine reg_sk 5 ?_ | (refine reg_one 5 (fun KK_ hKK_ => ?_); go_simp; (go_at_call 19; apply Calls.mono; with_reducible apply rsame_st (w := w) e1 e2; exact SV2.out; (first | assumption | exact List.mem_cons_self .. | exact List.mem_cons_of_mem _ (by assumption) | simp); (first | assumption | exact List.mem_cons_self .. | exact List.mem_cons_of_mem _ (by assumption) | simp); (first | assumption | exact List.mem_cons_self .. | exact List.mem_cons_of_mem _ (by assumption) | simp); (first | assumption | exact List.mem_cons_self .. | exact List.mem_cons_of_mem _ (by assumption) | simp); rintro e WR ⟨rfl, h1_⟩; have SV2 := Aside0.mk h1_; clear h1_); refine hKK_.out _ _ (by (try dsimp only); (with_reducible exact K.out _ _ SV2.out)) (fun hHeld => ?_); clear hKK_ KK_) | fail
          (try simp only [Act.put, List.setIfInBounds_toArray, List.set_cons_zero, List.set_cons_succ])
          first | refine reg_tk 6 ?_ | refine reg_sk 6 ?_ | fail
          (try simp only [Act.put, List.setIfInBounds_toArray, List.set_cons_zero, List.set_cons_succ])
          first | refine reg_tk 7 ?_ | refine reg_sk 7 ?_ | fail
          (try simp only [Act.put, List.setIfInBounds_toArray, List.set_cons_zero, List.set_cons_succ])
          first | refine reg_tk 8 ?_ | refine reg_sk 8 ?_ | fail
          (try simp only [Act.put, List.setIfInBounds_toArray, List.set_cons_zero, List.set_cons_succ])
          first | refine reg_tk 9 ?_ | refine reg_sk 9 ?_ | fail
          (try simp only [Act.put, List.setIfInBounds_toArray, List.set_cons_zero, List.set_cons_succ])
          first | refine reg_tk 11 ?_ | refine reg_sk 11 ?_ | fail
          (try simp only [Act.put, List.setIfInBounds_toArray, List.set_cons_zero, List.set_cons_succ])
          first | refine reg_tk 12 ?_ | refine reg_sk 12 ?_ | fail
          (try simp only [Act.put, List.setIfInBounds_toArray, List.set_cons_zero, List.set_cons_succ])
          first | refine reg_sk 10 ?_ | (refine reg_one 10 (fun KK_ hKK_ => ?_); go_simp; (go_at_call 20; apply Calls.mono; with_reducible apply leq_st (w := w) e1 e2; exact SV2.out; (first | assumption | exact List.mem_cons_self .. | exact List.mem_cons_of_mem _ (by assumption) | simp); (first | assumption | exact List.mem_cons_self .. | exact List.mem_cons_of_mem _ (by assumption) | simp); (first | assumption | exact List.mem_cons_self .. | exact List.mem_cons_of_mem _ (by assumption) | simp); (first | assumption | exact List.mem_cons_self .. | exact List.mem_cons_of_mem _ (by assumption) | simp); rintro e WR ⟨rfl, h1_⟩; have SV2 := Aside0.mk h1_; clear h1_); refine hKK_.out _ _ (by (try dsimp only); (with_reducible exact K.out _ _ SV2.out)) (fun hHeld => ?_); clear hKK_ KK_) | fail
          (try simp only [Act.put, List.setIfInBounds_toArray, List.set_cons_zero, List.set_cons_succ])
          first | refine reg_sk 13 ?_ | (refine reg_one 13 (fun KK_ hKK_ => ?_); go_simp; (go_at_call 21; apply Calls.mono; with_reducible apply rleq_st (w := w) e1 e2; exact SV2.out; (first | assumption | exact List.mem_cons_self .. | exact List.mem_cons_of_mem _ (by assumption) | simp); (first | assumption | exact List.mem_cons_self .. | exact List.mem_cons_of_mem _ (by assumption) | simp); (first | assumption | exact List.mem_cons_self .. | exact List.mem_cons_of_mem _ (by assumption) | simp); (first | assumption | exact List.mem_cons_self .. | exact List.mem_cons_of_mem _ (by assumption) | simp); rintro e WR ⟨rfl, h1_⟩; have SV2 := Aside0.mk h1_; clear h1_); refine hKK_.out _ _ (by (try dsimp only); (with_reducible exact K.out _ _ SV2.out)) (fun hHeld => ?_); clear hKK_ KK_) | fail
          (try simp only [Act.put, List.setIfInBounds_toArray, List.set_cons_zero, List.set_cons_succ])
          first | refine reg_tk 14 ?_ | refine reg_sk 14 ?_ | fail
          (try simp only [Act.put, List.setIfInBounds_toArray, List.set_cons_zero, List.set_cons_succ])
          first | refine reg_tk 15 ?_ | refine reg_sk 15 ?_ | fail
          (try simp only [Act.put, List.setIfInBounds_toArray, List.set_cons_zero, List.set_cons_succ])
          first | refine reg_tk 16 ?_ | refine reg_sk 16 ?_ | fail
          (try simp only [Act.put, List.setIfInBounds_toArray, List.set_cons_zero, List.set_cons_succ])
          first | refine reg_tk 17 ?_ | refine reg_sk 17 ?_ | fail
          (try simp only [Act.put, List.setIfInBounds_toArray, List.set_cons_zero, List.set_cons_succ])
          first | refine reg_tk 18 ?_ | refine reg_sk 18 ?_ | fail
          (try simp only [Act.put, List.setIfInBounds_toArray, List.set_cons_zero, List.set_cons_succ])
          first | refine reg_tk 20 ?_ | refine reg_sk 20 ?_ | fail
          (try simp only [Act.put, List.setIfInBounds_toArray, List.set_cons_zero, List.set_cons_succ])
          first | refine reg_tk 21 ?_ | refine reg_sk 21 ?_ | fail
          (try simp only [Act.put, List.setIfInBounds_toArray, List.set_cons_zero, List.set_cons_succ])
          first | refine reg_sk 19 ?_ | (refine reg_one 19 (fun KK_ hKK_ => ?_); go_simp; (go_at_call 22; apply Calls.mono; with_reducible apply join_st (w := w) e1 e2; exact SV2.out; (first | assumption | exact List.mem_cons_self .. | exact List.mem_cons_of_mem _ (by assumption) | simp); (first | assumption | exact List.mem_cons_self .. | exact List.mem_cons_of_mem _ (by assumption) | simp); (first | assumption | exact List.mem_cons_self .. | exact List.mem_cons_of_mem _ (by assumption) | simp); (first | assumption | exact List.mem_cons_self .. | exact List.mem_cons_of_mem _ (by assumption) | simp); rintro e WR ⟨EJ, mJ, rfl, hmJ, h1_⟩; have SV2 := Aside0.mk h1_; clear h1_); refine hKK_.out _ _ (by (try dsimp only); (with_reducible exact K.out _ _ SV2.out)) (fun hHeld => ?_); clear hKK_ KK_) | fail
          (try simp only [Act.put, List.setIfInBounds_toArray, List.set_cons_zero, List.set_cons_succ])
          first | refine reg_sk 22 ?_ | (refine reg_one 22 (fun KK_ hKK_ => ?_); go_simp; (go_at_call 23; apply Calls.mono; with_reducible apply rjoin_st (w := w) e1 e2; exact SV2.out; (first | assumption | exact List.mem_cons_self .. | exact List.mem_cons_of_mem _ (by assumption) | simp); (first | assumption | exact List.mem_cons_self .. | exact List.mem_cons_of_mem _ (by assumption) | simp); (first | assumption | exact List.mem_cons_self .. | exact List.mem_cons_of_mem _ (by assumption) | simp); (first | assumption | exact List.mem_cons_self .. | exact List.mem_cons_of_mem _ (by assumption) | simp); rintro e WR ⟨EK, mK, rfl, hmK, h1_⟩; have SV2 := Aside0.mk h1_; clear h1_); refine hKK_.out _ _ (by (try dsimp only); (with_reducible exact K.out _ _ SV2.out)) (fun hHeld => ?_); clear hKK_ KK_) | fail
          (try simp only [Act.put, List.setIfInBounds_toArray, List.set_cons_zero, List.set_cons_succ])
          first | refine reg_sk 23 ?_ | (refine reg_one 23 (fun KK_ hKK_ => ?_); go_simp; (go_at_call 19; apply Calls.mono; with_reducible apply rsame_st (w := w) (Lab.join e1 e2) (Lab.join e1 e2); exact SV2.out; (first | assumption | exact List.mem_cons_self .. | exact List.mem_cons_of_mem _ (by assumption) | simp); (first | assumption | exact List.mem_cons_self .. | exact List.mem_cons_of_mem _ (by assumption) | simp); (first | assumption | exact List.mem_cons_self .. | exact List.mem_cons_of_mem _ (by assumption) | simp); (first | assumption | exact List.mem_cons_self .. | exact List.mem_cons_of_mem _ (by assumption) | simp); rintro e WR ⟨rfl, h1_⟩; have SV2 := Aside0.mk h1_; clear h1_); refine hKK_.out _ _ (by (try dsimp only); (with_reducible exact K.out _ _ SV2.out)) (fun hHeld => ?_); clear hKK_ KK_) | fail
          (try simp only [Act.put, List.setIfInBounds_toArray, List.set_cons_zero, List.set_cons_succ])
          first | refine reg_tk 24 ?_ | refine reg_sk 24 ?_ | fail
          (try simp only [Act.put, List.setIfInBounds_toArray, List.set_cons_zero, List.set_cons_succ])
          first | refine reg_tk 25 ?_ | refine reg_sk 25 ?_ | fail
          (try simp only [Act.put, List.setIfInBounds_toArray, List.set_cons_zero, List.set_cons_succ])
          refine wpAnyH_done (by kernel_rfl) ?_ _
          clear K hHeld
          go_wp2
          go_roundg (6 - i2)
          case rel => exact ⟨i2 + 1, by simp, ⟨⟨by omega, by omega, SV2.out.tailRow.tailRow.tail⟩⟩⟩
          case measure => omega
        · obtain rfl : i2 = 6 := by omega
          go_wp2
          go_roundg (6 - i1)
          case rel => exact ⟨i1 + 1, by simp, ⟨⟨by omega, by omega, R2.out.tail⟩⟩⟩
          case measure => omega
    · obtain rfl : i1 = 6 := by omega
      go_wp2
      go_ret
      exact ⟨rfl, R1.out.bel⟩
end Go.Proofs.Ytngckofkbkhomaa
