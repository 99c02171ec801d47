/- Package label's functions on labels that are read: one state, 'St', for all rows that a law has at hand. -/
import Derived.Test.YtngckofkbkhomaaHLabJoin
namespace Go.Proofs.Ytngckofkbkhomaa
open Go.RowKit Go.Lib Go.Proofs.Ytngckofkbkhomaa.PBase Go.Proofs.YtngckofkbkhomaaW.PrintWords Go.Proofs.YtngckofkbkhomaaW.PrintLast Go.Proofs.YtngckofkbkhomaaW.PrintMore
set_option linter.unusedVariables false
/-- the rows at hand, and nothing below w turned -/
structure St (w : World) (L : List (Option Addr × List Int)) (M : List (Nat × Array Value × TypeId)) (W : World) : Prop where
  rows : ∀ p ∈ L, Kd.C (Kd.int .i64) W p.1 p.2.length p.2
  boxes : ∀ p ∈ M, w.heap.size ≤ p.1 ∧ W.heap[p.1]? = some (.cells p.2.1 p.2.2 (0, 0))
  bel : Below w.heap.size w W
theorem St.start (w : World) : St w [] [] w := ⟨fun p hp => (by cases hp), fun p hp => (by cases hp), Below.refl _ _⟩
section
variable {w W W' : World} {L : List (Option Addr × List Int)} {M : List (Nat × Array Value × TypeId)}
theorem St.step (h : St w L M W) (hb : Below W.heap.size W W') : St w L M W' :=
  ⟨fun p hp => Kd.C_below (h.rows p hp) hb, fun p hp => ⟨(h.boxes p hp).1, (hb.block _ (Array.getElem?_eq_some_iff.1 (h.boxes p hp).2).1).trans (h.boxes p hp).2⟩, h.bel.trans (hb.mono h.bel.size)⟩
theorem St.add (h : St w L M W) {A : Option Addr} {l : List Int} (hr : Kd.C (Kd.int .i64) W A l.length l) : St w ((A, l) :: L) M W :=
  ⟨fun p hp => by
    rcases List.mem_cons.1 hp with rfl | hp
    · exact hr
    · exact h.rows p hp, h.boxes, h.bel⟩
theorem St.addBox (h : St w L M W) {b : Nat} {cs : Array Value} {t : TypeId} (hb : w.heap.size ≤ b) (hr : W.heap[b]? = some (.cells cs t (0, 0))) : St w L ((b, cs, t) :: M) W :=
  ⟨h.rows, fun p hp => by
    rcases List.mem_cons.1 hp with rfl | hp
    · exact ⟨hb, hr⟩
    · exact h.boxes p hp, h.bel⟩
theorem St.alloc (h : St w L M W) (o : Obj) : St w L M (W.alloc o) := h.step (below_alloc (Below.refl _ _) o)
theorem St.drew (h : St w L M W) : St w L M W.drew := h.step (below_drew1 (Below.refl _ _))
theorem St.box (h : St w L M W) (cs : Array Value) (t : TypeId) : St w L ((W.heap.size, cs, t) :: M) (W.alloc (.cells cs t)) := (h.alloc _).addBox h.bel.size (heap_alloc_new W _)
/-- a new variable of four cells, written at once -/
theorem St.store4 (h : St w L M W) (t : TypeId) (a0 a1 a2 a3 v0 v1 v2 v3 : Value) :
    St w L ((W.heap.size, #[v0, v1, v2, v3], t) :: M) (((((W.alloc (.cells #[a0, a1, a2, a3] t)).setCell ⟨W.heap.size, 0, none⟩ v0).setCell ⟨W.heap.size, 1, none⟩ v1).setCell ⟨W.heap.size, 2, none⟩ v2).setCell ⟨W.heap.size, 3, none⟩ v3) := by
  have hb : Below W.heap.size W (((((W.alloc (.cells #[a0, a1, a2, a3] t)).setCell ⟨W.heap.size, 0, none⟩ v0).setCell ⟨W.heap.size, 1, none⟩ v1).setCell ⟨W.heap.size, 2, none⟩ v2).setCell ⟨W.heap.size, 3, none⟩ v3) :=
    below_set (below_set (below_set (below_set (below_alloc (Below.refl _ _) _) (Nat.le_refl _)) (Nat.le_refl _)) (Nat.le_refl _)) (Nat.le_refl _)
  exact (h.step hb).addBox h.bel.size (put4 (heap_alloc_new W _))
theorem lit_C (W : World) (l : List Int) (hm : l.length ≤ 9223372036854775807) : Kd.C (Kd.int .i64) (W.alloc (.cells (nums .i64 l).toArray 3)) (some ⟨W.heap.size, 0, none⟩) l.length l := by
  have h := own_lit W W.heap.size 3 .i64 l (Nat.le_refl _) hm
  have hR : Kd.R (Kd.int .i64) 3 (W.alloc (.cells (nums .i64 l).toArray 3)) W.heap.size (fun _ => True) (.slice (some ⟨W.heap.size, 0, none⟩) l.length l.length) l := Kd.R_of_own h (fun _ _ => trivial)
  exact (Kd.R_reads' hR).2.2
theorem St.lit1 (h : St w L M W) (a : Int) : St w ((some ⟨W.heap.size, 0, none⟩, [a]) :: L) M (W.alloc (.cells #[.int .i64 a] 3)) := (h.alloc _).add (lit_C W [a] (by simp))
theorem St.lit2 (h : St w L M W) (a b : Int) : St w ((some ⟨W.heap.size, 0, none⟩, [a, b]) :: L) M (W.alloc (.cells #[.int .i64 a, .int .i64 b] 3)) := (h.alloc _).add (lit_C W [a, b] (by simp))
theorem St.lit3 (h : St w L M W) (a b c : Int) : St w ((some ⟨W.heap.size, 0, none⟩, [a, b, c]) :: L) M (W.alloc (.cells #[.int .i64 a, .int .i64 b, .int .i64 c] 3)) := (h.alloc _).add (lit_C W [a, b, c] (by simp))
theorem St.nil (h : St w L M W) : St w ((none, []) :: L) M W := h.add (Kd.C_nil _ _)
theorem St.get (h : St w L M W) {A : Option Addr} {l : List Int} (hm : (A, l) ∈ L) : Kd.C (Kd.int .i64) W A l.length l := h.rows _ hm
theorem St.cell (h : St w L M W) {b : Nat} {cs : Array Value} {t : TypeId} (hm : (b, cs, t) ∈ M) (j : Nat) : W.cell? ⟨b, j, none⟩ = cs[j]? := cell_of_heap (h.boxes _ hm).2 j
theorem St.frozen (h : St w L M W) {b : Nat} {cs : Array Value} {t : TypeId} (hm : (b, cs, t) ∈ M) (j : Nat) : W.frozen? ⟨b, j, none⟩ = false := frozen_of_heap (h.boxes _ hm).2 j
end
variable {w W : World} {L : List (Option Addr × List Int)} {M : List (Nat × Array Value × TypeId)}
theorem valid_st (x : Lab) (A : Option Addr) (c : Nat) (h : St w L M W) (hm : (A, x.after) ∈ L) (hc : x.after.length ≤ c) :
    Calls Try.prog 16 #[.agg #[.int .i64 x.u, .slice A x.after.length c, .int .i64 x.ap, .int .i64 x.den]] W fun e w' => e = .returned (.bool (Lab.valid x)) ∧ St w L M w' := by
  refine (valid_calls x A c W (h.get hm) hc).mono ?_
  rintro e w' ⟨rfl, hb⟩
  exact ⟨rfl, h.step hb⟩
theorem same_st (x y : Lab) (A B : Option Addr) (c d : Nat) (h : St w L M W) (hx : (A, x.after) ∈ L) (hc : x.after.length ≤ c) (hy : (B, y.after) ∈ L) (hd : y.after.length ≤ d) :
    Calls Try.prog 18 #[.agg #[.int .i64 x.u, .slice A x.after.length c, .int .i64 x.ap, .int .i64 x.den], .agg #[.int .i64 y.u, .slice B y.after.length d, .int .i64 y.ap, .int .i64 y.den]] W fun e w' => e = .returned (.bool (decide (x = y))) ∧ St w L M w' := by
  obtain ⟨k, hk⟩ := (same_ev x y (h.get hx).2.1).rounds
  refine (label_Same.calls k x.u A c x.after x.ap x.den y.u B d y.after y.ap y.den _ W (h.get hx) hc (h.get hy) hd hk).mono ?_
  rintro e w' ⟨rfl, hb⟩
  exact ⟨rfl, h.step hb⟩
theorem leq_st (x y : Lab) (A B : Option Addr) (c d : Nat) (h : St w L M W) (hx : (A, x.after) ∈ L) (hc : x.after.length ≤ c) (hy : (B, y.after) ∈ L) (hd : y.after.length ≤ d) :
    Calls Try.prog 20 #[.agg #[.int .i64 x.u, .slice A x.after.length c, .int .i64 x.ap, .int .i64 x.den], .agg #[.int .i64 y.u, .slice B y.after.length d, .int .i64 y.ap, .int .i64 y.den]] W fun e w' => e = .returned (.bool (Lab.leq x y)) ∧ St w L M w' := by
  obtain ⟨k, hk⟩ := (leq_ev x y (h.get hx).2.1 (h.get hy).2.1).rounds
  refine (label_Leq.calls k x.u A c x.after x.ap x.den y.u B d y.after y.ap y.den _ W (h.get hx) hc (h.get hy) hd hk).mono ?_
  rintro e w' ⟨rfl, hb⟩
  exact ⟨rfl, h.step hb⟩
theorem join_st (x y : Lab) (A B : Option Addr) (c d : Nat) (h : St w L M W) (hx : (A, x.after) ∈ L) (hc : x.after.length ≤ c) (hy : (B, y.after) ∈ L) (hd : y.after.length ≤ d) :
    Calls Try.prog 22 #[.agg #[.int .i64 x.u, .slice A x.after.length c, .int .i64 x.ap, .int .i64 x.den], .agg #[.int .i64 y.u, .slice B y.after.length d, .int .i64 y.ap, .int .i64 y.den]] W fun e w' =>
      ∃ E m, e = .returned (.agg #[.int .i64 (Lab.join x y).u, .slice E (Lab.join x y).after.length m, .int .i64 (Lab.join x y).ap, .int .i64 (Lab.join x y).den]) ∧ (Lab.join x y).after.length ≤ m ∧ St w ((E, (Lab.join x y).after) :: L) M w' := by
  refine (join_calls x y A B c d W (h.get hx) hc (h.get hy) hd).mono ?_
  rintro e w' ⟨v, rfl, hR, hb⟩
  obtain ⟨E, m, rfl, hm, hC⟩ := Kd.R_reads hR
  exact ⟨E, m, rfl, hm, (h.step hb).add hC⟩
theorem allows_st (x : Lab) (A B : Option Addr) (c d : Nat) (cl now : Int) (out : List Int) (n : Int) (h : St w L M W) (hx : (A, x.after) ∈ L) (hc : x.after.length ≤ c) (ho : (B, out) ∈ L) (hd : out.length ≤ d) :
    Calls Try.prog 24 #[.agg #[.int .i64 x.u, .slice A x.after.length c, .int .i64 x.ap, .int .i64 x.den], .int .i64 cl, .int .i64 now, .slice B out.length d, .int .i64 n] W fun e w' => e = .returned (.bool (Lab.allows x cl now out n)) ∧ St w L M w' := by
  obtain ⟨k, hk⟩ := (allows_ev x cl now out n (h.get hx).2.1 (h.get ho).2.1).rounds
  refine (label_Allows.calls k x.u A c x.after x.ap x.den cl now B d out n _ W (h.get hx) hc (h.get ho) hd hk).mono ?_
  rintro e w' ⟨rfl, hb⟩
  exact ⟨rfl, h.step hb⟩

theorem join_zr (x : Lab) (A : Option Addr) (c : Nat) (h : St w L M W) (hx : (A, x.after) ∈ L) (hc : x.after.length ≤ c) :
    Calls Try.prog 22 #[.agg #[.int .i64 x.u, .slice A x.after.length c, .int .i64 x.ap, .int .i64 x.den], .agg #[.int .i64 0, .slice none 0 0, .int .i64 0, .int .i64 0]] W fun e w' =>
      ∃ E m, e = .returned (.agg #[.int .i64 (Lab.join x Lab.zero).u, .slice E (Lab.join x Lab.zero).after.length m, .int .i64 (Lab.join x Lab.zero).ap, .int .i64 (Lab.join x Lab.zero).den]) ∧ (Lab.join x Lab.zero).after.length ≤ m ∧ St w ((E, (Lab.join x Lab.zero).after) :: (none, []) :: L) M w' :=
  join_st x Lab.zero A none c 0 h.nil (List.mem_cons_of_mem _ hx) hc (List.mem_cons_self ..) (Nat.le_refl _)
theorem join_zl (x : Lab) (A : Option Addr) (c : Nat) (h : St w L M W) (hx : (A, x.after) ∈ L) (hc : x.after.length ≤ c) :
    Calls Try.prog 22 #[.agg #[.int .i64 0, .slice none 0 0, .int .i64 0, .int .i64 0], .agg #[.int .i64 x.u, .slice A x.after.length c, .int .i64 x.ap, .int .i64 x.den]] W fun e w' =>
      ∃ E m, e = .returned (.agg #[.int .i64 (Lab.join Lab.zero x).u, .slice E (Lab.join Lab.zero x).after.length m, .int .i64 (Lab.join Lab.zero x).ap, .int .i64 (Lab.join Lab.zero x).den]) ∧ (Lab.join Lab.zero x).after.length ≤ m ∧ St w ((E, (Lab.join Lab.zero x).after) :: (none, []) :: L) M w' :=
  join_st Lab.zero x none A 0 c h.nil (List.mem_cons_self ..) (Nat.le_refl _) (List.mem_cons_of_mem _ hx) hc

/-! Make -/
def Rng (a : Int) : Prop := -9223372036854775808 ≤ a ∧ a ≤ 9223372036854775807
theorem pick_f (a n : Int) (ha : Rng a) (hn : 0 < n) : ∃ r, copydesklaw02_pick.f a n = some r ∧ 0 ≤ r ∧ r < n := by
  unfold copydesklaw02_pick.f
  obtain ⟨h1, h2⟩ := ha
  by_cases c : a < 0
  · rw [if_pos c, if_neg (by omega)]
    have e : wrap64 (-(wrap64 (a + 1))) = -(a + 1) := by unfold wrap64; omega
    rw [e]
    exact ⟨_, rfl, Int.tmod_nonneg _ (by omega), Int.tmod_lt_of_pos _ hn⟩
  · rw [if_neg c, if_neg (by omega)]
    exact ⟨_, rfl, Int.tmod_nonneg _ (by omega), Int.tmod_lt_of_pos _ hn⟩
theorem make_loop (x0 x1 x2 x3 u ap den : Int) : ∀ (d : Nat) (i : Int) (acc : List Int), 1 ≤ i → i ≤ 65 → 65 - i = d → Lab.asc acc → (∀ n ∈ acc, 1 ≤ n ∧ n < i) → (acc.length : Int) < i →
    ∃ r, Ev (fun k => copydesklaw02_Make.l0 k i x0 x1 x2 x3 u acc ap den) (u, r, ap, den) ∧ Lab.asc r ∧ ∀ n ∈ r, 1 ≤ n ∧ n ≤ 64 := by
  intro d
  induction d with
  | zero =>
    intro i acc h0 h1 hd ha hr hl
    exact ⟨acc, Ev.step (fun k => by rw [copydesklaw02_Make.l0]) (Ev_ifF (by omega) (Ev.now _)), ha, fun n hn => by have := hr n hn; omega⟩
  | succ d ih =>
    intro i acc h0 h1 hd ha hr hl
    have hw : wrap64 (i + 1) = i + 1 := by unfold wrap64; omega
    have hw1 : wrap64 (i - 1) = i - 1 := by unfold wrap64; omega
    by_cases c : Go.bits .and .u64 (shr .u64 (IntKind.u64.wrap x1) (i - 1)) 1 = 1
    · obtain ⟨r, h, h2, h3⟩ := ih (i + 1) (acc ++ [i]) (by omega) (by omega) (by omega) (by
        rw [Lab.asc, List.pairwise_append]
        refine ⟨ha, List.pairwise_singleton _ _, fun a hA b hB => ?_⟩
        obtain rfl := List.mem_singleton.1 hB
        have := hr a hA; omega) (by
        intro n hn
        rcases List.mem_append.1 hn with hn | hn
        · have := hr n hn; omega
        · obtain rfl := List.mem_singleton.1 hn; omega) (by simp; omega)
      refine ⟨r, Ev.step (fun k => by rw [copydesklaw02_Make.l0]) (Ev_ifT (by omega) ?_), h2, h3⟩
      rw [hw1, hw]
      exact Ev_ifT (by omega) (Ev_ifT c (Ev_ifT (by omega) h))
    · obtain ⟨r, h, h2, h3⟩ := ih (i + 1) acc (by omega) (by omega) (by omega) ha (fun n hn => by have := hr n hn; omega) (by omega)
      refine ⟨r, Ev.step (fun k => by rw [copydesklaw02_Make.l0]) (Ev_ifT (by omega) ?_), h2, h3⟩
      rw [hw1, hw]
      exact Ev_ifT (by omega) (Ev_ifF c h)
theorem make_ev (x0 x1 x2 x3 : Int) (h0 : Rng x0) (h2 : Rng x2) (h3 : Rng x3) : ∃ x : Lab, Lab.Ok x ∧ Ev (fun k => copydesklaw02_Make.f k x0 x1 x2 x3) (x.u, x.after, x.ap, x.den) := by
  obtain ⟨u, e0, u0, u1⟩ := pick_f x0 1000000001 h0 (by omega)
  obtain ⟨a, e2, a0, a1⟩ := pick_f x2 6 h2 (by omega)
  obtain ⟨d, e3, d0, d1⟩ := pick_f x3 16 h3 (by omega)
  obtain ⟨r, h, hr, hn⟩ := make_loop x0 x1 x2 x3 u a d 64 1 [] (by omega) (by omega) (by omega) List.Pairwise.nil (fun n hn => by cases hn) (by simp)
  refine ⟨⟨u, r, a, d⟩, ⟨u0, by simp only; omega, hn, hr, a0, by simp only; omega, d0, by simp only; omega⟩, ?_⟩
  unfold copydesklaw02_Make.f
  rw [e0, e2, e3]
  simp only [Option.bind_some]
  exact h
open Classical in
/-- the label that Make makes -/
noncomputable def mk (x0 x1 x2 x3 : Int) : Lab := if h : ∃ x : Lab, Lab.Ok x ∧ Ev (fun k => copydesklaw02_Make.f k x0 x1 x2 x3) (x.u, x.after, x.ap, x.den) then h.choose else Lab.zero
theorem mk_ok (x0 x1 x2 x3 : Int) : Lab.Ok (mk x0 x1 x2 x3) := by
  unfold mk
  split
  · rename_i h; exact h.choose_spec.1
  · exact Lab.ok_zero
theorem mk_ev (x0 x1 x2 x3 : Int) (h0 : Rng x0) (h2 : Rng x2) (h3 : Rng x3) : Ev (fun k => copydesklaw02_Make.f k x0 x1 x2 x3) ((mk x0 x1 x2 x3).u, (mk x0 x1 x2 x3).after, (mk x0 x1 x2 x3).ap, (mk x0 x1 x2 x3).den) := by
  have h := make_ev x0 x1 x2 x3 h0 h2 h3
  unfold mk
  rw [dif_pos h]
  exact h.choose_spec.2
theorem make_st (x0 x1 x2 x3 : Int) (h : St w L M W) (h0 : Rng x0) (h2 : Rng x2) (h3 : Rng x3) :
    Calls Try.prog 14 #[.agg #[.int .i64 x0, .int .i64 x1, .int .i64 x2, .int .i64 x3]] W fun e w' =>
      ∃ E m, e = .returned (.agg #[.int .i64 (mk x0 x1 x2 x3).u, .slice E (mk x0 x1 x2 x3).after.length m, .int .i64 (mk x0 x1 x2 x3).ap, .int .i64 (mk x0 x1 x2 x3).den]) ∧ (mk x0 x1 x2 x3).after.length ≤ m ∧ St w ((E, (mk x0 x1 x2 x3).after) :: L) M w' := by
  obtain ⟨k, hk⟩ := (mk_ev x0 x1 x2 x3 h0 h2 h3).rounds
  refine (copydesklaw02_Make.calls k x0 x1 x2 x3 _ _ _ _ W hk).mono ?_
  rintro e w' ⟨v, rfl, hR, hb⟩
  obtain ⟨E, m, rfl, hm, hC⟩ := Kd.R_reads hR
  exact ⟨E, m, rfl, hm, (h.step hb).add hC⟩
theorem stories_st (x1 : Int) (h : St w L M W) :
    Calls Try.prog 26 #[.int .i64 x1] W fun e w' => ∃ E m, e = .returned (.slice E (mk 0 x1 0 0).after.length m) ∧ (mk 0 x1 0 0).after.length ≤ m ∧ St w ((E, (mk 0 x1 0 0).after) :: L) M w' := by
  obtain ⟨k, hk⟩ := (mk_ev 0 x1 0 0 ⟨by omega, by omega⟩ ⟨by omega, by omega⟩ ⟨by omega, by omega⟩).rounds
  refine (copydesklaw02_Stories.calls k x1 (mk 0 x1 0 0).after W (by unfold copydesklaw02_Stories.f; rw [hk]; rfl)).mono ?_
  rintro e w' ⟨v, rfl, hR, hb⟩
  obtain ⟨E, m, rfl, hm, hC⟩ := Kd.R_reads hR
  exact ⟨E, m, rfl, hm, (h.step hb).add hC⟩
end Go.Proofs.Ytngckofkbkhomaa
