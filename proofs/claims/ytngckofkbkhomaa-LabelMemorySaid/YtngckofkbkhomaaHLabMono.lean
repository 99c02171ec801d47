/- A joined label's row apart from a box that came before or behind it. -/
import Derived.Test.YtngckofkbkhomaaHLabAppend
namespace Go.Proofs.Ytngckofkbkhomaa
open Go.RowKit Go.Lib Go.Proofs.YtngckofkbkhomaaW.PrintWords
set_option linter.unusedVariables false
theorem own_reads3 {W : World} {base : Nat} {v : Value} {xs : List Int} (h : Own W base v xs) : ∃ E m, v = .slice E xs.length m ∧ xs.length ≤ m ∧ Kd.C (Kd.int .i64) W E xs.length xs ∧ ∀ ad, E = some ad → base ≤ ad.block ∧ ad.block < W.heap.size := by
  obtain ⟨E, m, rfl, h1, h2⟩ := own_reads h
  refine ⟨E, m, rfl, h1, h2, ?_⟩
  intro ad hE
  subst hE
  rcases h.2 with ⟨he, _⟩ | ⟨g, cap, cur, he, hb, hg, _⟩
  · cases he
  · injection he with e1
    injection e1 with e1
    subst e1
    exact ⟨hb, (Array.getElem?_eq_some_iff.1 hg).1⟩
theorem own_step {W W1 : World} {base : Nat} {v : Value} {xs : List Int} (h : Own W base v xs) (hb : Below W.heap.size W W1) : Own W1 base v xs := pw_own_below h hb
theorem join_st2 {w W : World} {L : List (Option Addr × List Int)} {M : List (Nat × Array Value × TypeId)} (x y : Lab) (A B : Option Addr) (c d : Nat) (h : St w L M W) (hx : (A, x.after) ∈ L) (hc : x.after.length ≤ c) (hy : (B, y.after) ∈ L) (hd : y.after.length ≤ d) :
    Calls Try.prog 22 #[.agg #[.int .i64 x.u, .slice A x.after.length c, .int .i64 x.ap, .int .i64 x.den], .agg #[.int .i64 y.u, .slice B y.after.length d, .int .i64 y.ap, .int .i64 y.den]] W fun e w' =>
      ∃ E m, e = .returned (.agg #[.int .i64 (Lab.join x y).u, .slice E (Lab.join x y).after.length m, .int .i64 (Lab.join x y).ap, .int .i64 (Lab.join x y).den]) ∧ (Lab.join x y).after.length ≤ m ∧ St w L M w' ∧ Below W.heap.size W w' ∧ Kd.C (Kd.int .i64) w' E (Lab.join x y).after.length (Lab.join x y).after ∧ ∀ ad, E = some ad → W.heap.size ≤ ad.block ∧ ad.block < w'.heap.size := by
  refine (join_calls x y A B c d W (h.get hx) hc (h.get hy) hd).mono ?_
  rintro e w' ⟨v, rfl, hR, hb⟩
  obtain ⟨E, m, rfl, hm, hC, hE⟩ := own_reads3 (Kd.own_of_R hR)
  exact ⟨E, m, rfl, hm, h.step hb, hb, hC, hE⟩
theorem St.poke4 {w W0 Wj : World} {L : List (Option Addr × List Int)} {M : List (Nat × Array Value × TypeId)} {b : Nat} {t : TypeId} {z0 z1 z2 z3 v0 v1 v2 v3 : Value} {E : Option Addr} {l : List Int} (h0 : St w L M W0) (hB : Below W0.heap.size W0 Wj)
    (hbox : Wj.heap[b]? = some (.cells #[z0, z1, z2, z3] t (0, 0))) (hb : W0.heap.size ≤ b) (hC : Kd.C (Kd.int .i64) Wj E l.length l) (hE : ∀ ad, E = some ad → ad.block ≠ b) :
    St w ((E, l) :: L) ((b, #[v0, v1, v2, v3], t) :: M) ((((Wj.setCell ⟨b, 0, none⟩ v0).setCell ⟨b, 1, none⟩ v1).setCell ⟨b, 2, none⟩ v2).setCell ⟨b, 3, none⟩ v3) :=
  ((h0.step (below_set (below_set (below_set (below_set hB hb) hb) hb) hb)).addBox (Nat.le_trans h0.bel.size hb) (put4 hbox)).add
    (Kd.C_keep (0 : Int) hC (KeepBut.set_ (KeepBut.set_ (KeepBut.set_ (KeepBut.set_ (KeepBut.refl _ _ _) _ _) _ _) _ _) _ _) (fun ad hA _ => hE ad hA))
theorem St.lt {w W : World} {L : List (Option Addr × List Int)} {M : List (Nat × Array Value × TypeId)} (h : St w L M W) {A : Option Addr} {l : List Int} (hm : (A, l) ∈ L) : ∀ ad, A = some ad → 0 < l.length → ad.block < W.heap.size := by
  intro ad hA hl
  have hR := Kd.reads_of_C (d := (0 : Int)) (h.get hm)
  obtain ⟨ad', h', hc⟩ := hR.2.2 hl
  rw [hA] at h'
  obtain rfl := Option.some.inj h'
  have := World.block_lt_of_cell? _ _ (hc 0 hl)
  simpa [Addr.add] using this
theorem St.poke5 {w W : World} {L L' : List (Option Addr × List Int)} {M M' : List (Nat × Array Value × TypeId)} {b : Nat} {t : TypeId} {z0 z1 z2 z3 v0 v1 v2 v3 : Value} {E : Option Addr} {l : List Int} (h : St w L ((b, #[z0, z1, z2, z3], t) :: M) W)
    (hL : ∀ p ∈ L', p ∈ L ∧ ∀ ad, p.1 = some ad → 0 < p.2.length → ad.block ≠ b) (hM : ∀ p ∈ M', p ∈ M ∧ p.1 ≠ b) (hC : Kd.C (Kd.int .i64) W E l.length l) (hE : ∀ ad, E = some ad → ad.block ≠ b) :
    St w ((E, l) :: L') ((b, #[v0, v1, v2, v3], t) :: M') ((((W.setCell ⟨b, 0, none⟩ v0).setCell ⟨b, 1, none⟩ v1).setCell ⟨b, 2, none⟩ v2).setCell ⟨b, 3, none⟩ v3) := by
  have hbx := h.boxes _ (List.mem_cons_self ..)
  have hk : KeepBut W ((((W.setCell ⟨b, 0, none⟩ v0).setCell ⟨b, 1, none⟩ v1).setCell ⟨b, 2, none⟩ v2).setCell ⟨b, 3, none⟩ v3) b none := KeepBut.set_ (KeepBut.set_ (KeepBut.set_ (KeepBut.set_ (KeepBut.refl _ _ _) _ _) _ _) _ _) _ _
  refine ⟨fun p hp => ?_, fun p hp => ?_, below_set (below_set (below_set (below_set h.bel hbx.1) hbx.1) hbx.1) hbx.1⟩
  · rcases List.mem_cons.1 hp with rfl | hp
    · exact Kd.C_keep (0 : Int) hC hk (fun ad hA _ => hE ad hA)
    · exact Kd.C_keep (0 : Int) (h.rows p (hL p hp).1) hk (fun ad hA hl => (hL p hp).2 ad hA hl)
  · rcases List.mem_cons.1 hp with rfl | hp
    · exact ⟨hbx.1, put4 hbx.2⟩
    · have h2 := h.boxes p (List.mem_cons_of_mem _ (hM p hp).1)
      exact ⟨h2.1, hk.blk h2.2 (hM p hp).2 (by simp)⟩
theorem stories_own (x1 : Int) (W : World) :
    Calls Try.prog 26 #[.int .i64 x1] W fun e w' => ∃ v, e = .returned v ∧ Own w' W.heap.size v (mk 0 x1 0 0).after ∧ Below W.heap.size W w' := by
  obtain ⟨k, hk⟩ := (mk_ev 0 x1 0 0 ⟨by omega, by omega⟩ ⟨by omega, by omega⟩ ⟨by omega, by omega⟩).rounds
  refine (PBase.copydesklaw02_Stories.calls k x1 (mk 0 x1 0 0).after W (by unfold PBase.copydesklaw02_Stories.f; rw [hk]; rfl)).mono ?_
  rintro e w' ⟨v, rfl, hR, hb⟩
  exact ⟨v, rfl, Kd.own_of_R hR, hb⟩
end Go.Proofs.Ytngckofkbkhomaa
