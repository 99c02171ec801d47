/- A box that is written to. -/
import Derived.Test.YtngckofkbkhomaaHLabTab2
namespace Go.Proofs.Ytngckofkbkhomaa
open Go.RowKit Go.Proofs.YtngckofkbkhomaaW.PrintWords
set_option linter.unusedVariables false
theorem drawn_heap {W W' : World} (h : Drawn0 W W') : W'.heap = W.heap := by
  obtain ⟨n, rfl⟩ := h.out
  rfl
variable {w W0 W1 : World} {L : List (Option Addr × List Int)} {M : List (Nat × Array Value × TypeId)} {t : TypeId} {cs cs' : Array Value}
theorem bad_below (hd : Drawn0 (W0.alloc (.cells cs t)) W1) : Below W0.heap.size W0 W1 :=
  (below_alloc (Below.refl _ _) (.cells cs t)).trans ((hd.below).mono (by rw [World.size_alloc]; omega))
theorem bad_heap (hd : Drawn0 (W0.alloc (.cells cs t)) W1) : W1.heap[W0.heap.size]? = some (.cells cs t (0, 0)) := by
  rw [drawn_heap hd]
  exact heap_alloc_new W0 _
theorem St.bad (h : St w L M W0) (hd : Drawn0 (W0.alloc (.cells cs t)) W1) (j : Nat) (v : Value) (hc : cs.setIfInBounds j v = cs') : St w L ((W0.heap.size, cs', t) :: M) (W1.setCell ⟨W0.heap.size, j, none⟩ v) :=
  (h.step (below_set (bad_below hd) (Nat.le_refl _))).addBox h.bel.size (blk_put (bad_heap hd) j v hc)
theorem St.badRow (h : St w L M W0) (hd : Drawn0 (W0.alloc (.cells cs t)) W1) (ns : List Int) (hn : ns.length ≤ 100) (j : Nat) (v : Value) (hc : cs.setIfInBounds j v = cs') :
    St w ((some ⟨W1.heap.size, 0, none⟩, ns) :: L) ((W0.heap.size, cs', t) :: M) ((W1.alloc (.cells (nums .i64 ns).toArray 3)).setCell ⟨W0.heap.size, j, none⟩ v) := by
  have hlt : W0.heap.size < W1.heap.size := by
    rw [drawn_heap hd, World.size_alloc]
    omega
  have hb := h.step (below_set (below_alloc (bad_below hd) (.cells (nums .i64 ns).toArray 3)) (Nat.le_refl _) (j := j) (v := v))
  have hbox : (W1.alloc (.cells (nums .i64 ns).toArray 3)).heap[W0.heap.size]? = some (.cells cs t (0, 0)) := by
    rw [show (W1.alloc (.cells (nums .i64 ns).toArray 3)).heap[W0.heap.size]? = W1.heap[W0.heap.size]? from (below_alloc (Below.refl W1.heap.size W1) (.cells (nums .i64 ns).toArray 3)).block _ hlt]
    exact bad_heap hd
  refine St.add (hb.addBox h.bel.size (blk_put hbox j v hc)) ?_
  refine Kd.C_keep (0 : Int) (lit_C W1 ns (by omega)) (KeepBut.set_ (KeepBut.refl _ _ _) j v) ?_
  intro ad hA _
  obtain rfl := Option.some.inj hA
  exact Nat.ne_of_gt hlt
/-- the cells of two boxes of four cells -/
theorem St.cells2 {W : World} {b1 b2 : Nat} {t1 t2 : TypeId} {u0 u1 u2 u3 v0 v1 v2 v3 : Value} (h : St w L [(b1, #[u0, u1, u2, u3], t1), (b2, #[v0, v1, v2, v3], t2)] W) :
    W.cell? ⟨b1, 0, none⟩ = some u0 ∧ W.cell? ⟨b1, 1, none⟩ = some u1 ∧ W.cell? ⟨b1, 2, none⟩ = some u2 ∧ W.cell? ⟨b1, 3, none⟩ = some u3 ∧ W.cell? ⟨b2, 0, none⟩ = some v0 ∧ W.cell? ⟨b2, 1, none⟩ = some v1 ∧ W.cell? ⟨b2, 2, none⟩ = some v2 ∧ W.cell? ⟨b2, 3, none⟩ = some v3 :=
  ⟨h.cell (b := b1) (cs := #[u0, u1, u2, u3]) (t := t1) (by simp) 0, h.cell (b := b1) (cs := #[u0, u1, u2, u3]) (t := t1) (by simp) 1, h.cell (b := b1) (cs := #[u0, u1, u2, u3]) (t := t1) (by simp) 2, h.cell (b := b1) (cs := #[u0, u1, u2, u3]) (t := t1) (by simp) 3, h.cell (b := b2) (cs := #[v0, v1, v2, v3]) (t := t2) (by simp) 0, h.cell (b := b2) (cs := #[v0, v1, v2, v3]) (t := t2) (by simp) 1, h.cell (b := b2) (cs := #[v0, v1, v2, v3]) (t := t2) (by simp) 2, h.cell (b := b2) (cs := #[v0, v1, v2, v3]) (t := t2) (by simp) 3⟩
/-- a label and the zero label -/
theorem same_zr {W : World} (x : Lab) (A : Option Addr) (c : Nat) (h : St w L M W) (hx : (A, x.after) ∈ L) (hc : x.after.length ≤ c) :
    Calls Try.prog 18 #[.agg #[.int .i64 x.u, .slice A x.after.length c, .int .i64 x.ap, .int .i64 x.den], .agg #[.int .i64 0, .slice none 0 0, .int .i64 0, .int .i64 0]] W fun e w' => e = .returned (.bool (decide (x = Lab.zero))) ∧ St w L M w' :=
  (same_st x Lab.zero A none c 0 h.nil (List.mem_cons_of_mem _ hx) hc (List.mem_cons_self ..) (Nat.le_refl _)).mono fun e w' he => ⟨he.1, he.2.tailRow⟩
theorem pick_st {W : World} (a n r : Int) (hr : PBase.copydesklaw02_pick.f a n = some r) :
    Calls Try.prog 27 #[.int .i64 a, .int .i64 n] W fun e w' => e = .returned (.int .i64 r) ∧ Drawn0 W w' := PBase.copydesklaw02_pick.calls a n r W hr
/-- what a label that is not valid answers -/
theorem Lab.join_bad_r {x y : Lab} (h : Lab.valid y = false) : Lab.join x y = Lab.zero := by unfold Lab.join; rw [h, Bool.and_false]; rfl
theorem Lab.join_bad_l {x y : Lab} (h : Lab.valid x = false) : Lab.join x y = Lab.zero := by unfold Lab.join; rw [h]; rfl
theorem Lab.leq_bad_r {x y : Lab} (h : Lab.valid y = false) : Lab.leq x y = false := by unfold Lab.leq; rw [h]; simp
theorem Lab.leq_bad_l {x y : Lab} (h : Lab.valid x = false) : Lab.leq x y = false := by unfold Lab.leq; rw [h]; simp
theorem Lab.allows_bad {x : Lab} (h : Lab.valid x = false) (c now : Int) (out : List Int) (n : Int) : Lab.allows x c now out n = false := by unfold Lab.allows; rw [h]; simp
/-- the least conditions -/
theorem Lab.allows_early {x : Lab} (hx : Lab.Ok x) (c : Int) (out : List Int) (n : Int) : Lab.allows x c (x.u - 1) out n = false := by
  unfold Lab.allows
  rw [show decide (x.u - 1 ≥ x.u) = false from decide_eq_false (by omega)]
  simp
theorem Lab.allows_few {x : Lab} (hx : Lab.Ok x) (c now : Int) (out : List Int) : Lab.allows x c now out (x.ap - 1) = false := by
  unfold Lab.allows
  rw [show decide (x.ap - 1 ≥ x.ap) = false from decide_eq_false (by omega)]
  simp
theorem Lab.allows_just {x : Lab} (hx : Lab.Ok x) (i : Nat) (hi : i < 4) : Lab.allows x (i : Int) x.u x.after x.ap = !Lab.bit x.den (i : Int) := by
  unfold Lab.allows
  rw [Lab.valid_iff.2 hx, Lab.sub_iff.2 (fun n hn => hn), decide_eq_true (show (0 : Int) ≤ i ∧ (i : Int) ≤ 3 by omega), decide_eq_true (show x.u ≥ x.u by omega), decide_eq_true (show x.ap ≥ x.ap by omega)]
  simp
theorem Lab.allows_out {x : Lab} (c now : Int) (out : List Int) (n : Int) (hc : c < 0 ∨ 3 < c) : Lab.allows x c now out n = false := by
  unfold Lab.allows
  rw [show decide (0 ≤ c ∧ c ≤ 3) = false from decide_eq_false (by omega)]
  simp
theorem Lab.allows_lack {x : Lab} (c now : Int) (out : List Int) (n m : Int) (h1 : m ∈ x.after) (h2 : m ∉ out) : Lab.allows x c now out n = false := by
  unfold Lab.allows
  rw [show Lab.sub x.after out = false from Bool.eq_false_iff.2 (fun h => h2 (Lab.sub_iff.1 h m h1))]
  simp
theorem Lab.bit16 : ∀ a : Fin 16, ∀ c : Fin 4, (Go.bits .and .i64 (((a : Nat) : Int) / 2 ^ (c : Nat)) 1 == 0) = !Lab.bit ((a : Nat) : Int) ((c : Nat) : Int) := by decide +kernel
theorem Lab.bit_at {d : Int} (h0 : 0 ≤ d) (h1 : d ≤ 15) (i : Nat) (hi : i < 4) : (Go.bits .and .i64 (d / 2 ^ i) 1 == 0) = !Lab.bit d (i : Int) := by
  obtain ⟨x, rfl⟩ := Lab.fin16 h0 h1
  exact Lab.bit16 x ⟨i, hi⟩
theorem asc_len64 : ∀ (l : List Int) (m : Int), Lab.asc l → (∀ n ∈ l, m < n ∧ n ≤ 64) → m ≤ 64 → (l.length : Int) ≤ 64 - m
  | [], m, _, _, h => by simp; omega
  | x :: l, m, ha, hr, _ => by
    have hc := List.pairwise_cons.1 ha
    have hx := hr x (by simp)
    have := asc_len64 l x hc.2 (fun n hn => ⟨hc.1 n hn, (hr n (List.mem_cons_of_mem _ hn)).2⟩) hx.2
    simp only [List.length_cons]
    omega
theorem Lab.len_le {x : Lab} (hx : Lab.Ok x) : x.after.length ≤ 64 := by
  have := asc_len64 x.after 0 hx.2.2.2.1 (fun n hn => by have := hx.2.2.1 n hn; omega) (by omega)
  omega
theorem take_drop_lack {l : List Int} (h : Lab.asc l) (k : Nat) (hk : k < l.length) : l[k] ∉ l.take k ++ l.drop (k + 1) := by
  intro hm
  have hp := List.pairwise_iff_getElem.1 h
  rcases List.mem_append.1 hm with hm | hm
  · obtain ⟨j, hj, e⟩ := List.getElem_of_mem hm
    rw [List.getElem_take] at e
    rw [List.length_take] at hj
    have := hp j k (by omega) hk (by omega)
    omega
  · obtain ⟨j, hj, e⟩ := List.getElem_of_mem hm
    rw [List.getElem_drop] at e
    rw [List.length_drop] at hj
    have := hp k (k + 1 + j) hk (by omega) (by omega)
    omega
end Go.Proofs.Ytngckofkbkhomaa
