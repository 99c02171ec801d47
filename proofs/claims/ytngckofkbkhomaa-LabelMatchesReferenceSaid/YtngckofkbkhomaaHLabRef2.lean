/- The reference's Same, Leq and Join (copydeskref02) by closed forms: they are the package's own. -/
import Derived.Test.YtngckofkbkhomaaHLabRef
namespace Go.Proofs.Ytngckofkbkhomaa
open Go.RowKit Go.Proofs.Ytngckofkbkhomaa.PBase Go.Proofs.YtngckofkbkhomaaW.PrintWords Go.Proofs.YtngckofkbkhomaaW.PrintLast Go.Proofs.YtngckofkbkhomaaW.PrintMore
set_option linter.unusedVariables false
theorem rsame_loop (x y : Lab) (hl : x.after.length = y.after.length) (hn : x.after.length ≤ 9223372036854775807) : ∀ (d : Nat) (i : Int), 0 ≤ i → i ≤ x.after.length → (x.after.length : Int) - i = d →
    Ev (fun k => copydeskref02_Same.l0 k i x.u x.after x.ap x.den y.u y.after y.ap y.den) (decide (x.after.drop i.toNat = y.after.drop i.toNat) && (decide (x.u = y.u) && (decide (x.ap = y.ap) && (x.den == y.den)))) := by
  intro d
  induction d with
  | zero =>
    intro i h0 h1 hd
    refine Ev.step (fun k => by rw [copydeskref02_Same.l0]) (Ev_ifF (by omega) ?_)
    rw [List.drop_eq_nil_of_le (by omega), List.drop_eq_nil_of_le (by omega), decide_eq_true rfl, Bool.true_and]
    by_cases c1 : x.u = y.u
    · rw [decide_eq_true c1, Bool.true_and]
      refine Ev_ifT c1 ?_
      by_cases c2 : x.ap = y.ap
      · rw [decide_eq_true c2, Bool.true_and]
        exact Ev_ifT c2 (Ev.now _)
      · rw [decide_eq_false c2]
        exact Ev_ifF c2 (Ev.now _)
    · rw [decide_eq_false c1]
      exact Ev_ifF c1 (Ev.now _)
  | succ d ih =>
    intro i h0 h1 hd
    have hlt : i < (x.after.length : Int) := by omega
    have hlt2 : i < (y.after.length : Int) := by omega
    refine Ev.step (fun k => by rw [copydeskref02_Same.l0]) (Ev_ifT hlt (Ev_ifT h0 (Ev_ifT hlt2 ?_)))
    rw [rd_cons x.after i h0 hlt, rd_cons y.after i h0 hlt2]
    by_cases c : rd x.after i = rd y.after i
    · refine Ev_ifT c ?_
      rw [wrapS h0 hlt hn]
      have IH := ih (i + 1) (by omega) (by omega) (by omega)
      rw [show (i + 1).toNat = i.toNat + 1 by omega] at IH
      rw [dec_eq (q := x.after.drop (i.toNat + 1) = y.after.drop (i.toNat + 1)) (by rw [c]; exact List.cons_inj_right _)]
      exact IH
    · rw [decide_eq_false (by intro h; exact c (List.cons.inj h).1)]
      exact Ev_ifF c (Ev.now _)
theorem rsame_ev (x y : Lab) (hn : x.after.length ≤ 9223372036854775807) : Ev (fun k => copydeskref02_Same.f k x.u x.after x.ap x.den y.u y.after y.ap y.den) (decide (x = y)) := by
  unfold copydeskref02_Same.f
  by_cases hl : x.after.length = y.after.length
  · refine Ev_ifT (by omega) ?_
    have R := rsame_loop x y hl hn x.after.length 0 (by omega) (by omega) (by omega)
    have e : decide (x = y) = (decide (x.after.drop (0 : Int).toNat = y.after.drop (0 : Int).toNat) && (decide (x.u = y.u) && (decide (x.ap = y.ap) && (x.den == y.den)))) := by
      rw [Bool.eq_iff_iff, decide_eq_true_iff, lab_eq]
      simp only [Int.toNat_zero, List.drop_zero, Bool.and_eq_true, decide_eq_true_eq, beq_iff_eq]
      exact ⟨fun ⟨a, b, c, d⟩ => ⟨b, a, c, d⟩, fun ⟨b, a, c, d⟩ => ⟨a, b, c, d⟩⟩
    rw [e]
    exact R
  · rw [decide_eq_false (by intro h; exact hl (by rw [h]))]
    exact Ev_ifF (by omega) (Ev.now _)
/-! Leq -/
theorem rleq_bits16 : ∀ a b : Fin 16, ((!Lab.bit ((a : Nat) : Int) 0 || Lab.bit ((b : Nat) : Int) 0) && ((!Lab.bit ((a : Nat) : Int) 1 || Lab.bit ((b : Nat) : Int) 1) && ((!Lab.bit ((a : Nat) : Int) 2 || Lab.bit ((b : Nat) : Int) 2) && ((!Lab.bit ((a : Nat) : Int) 3 || Lab.bit ((b : Nat) : Int) 3) && true)))) = (Lab.andNot ((a : Nat) : Int) ((b : Nat) : Int) == 0) := by decide +kernel
theorem rleq_step (x y : Lab) (hx : Lab.Ok x) (hy : Lab.Ok y) (i : Int) (h0 : 0 ≤ i) (h3 : i ≤ 3) {r : Bool} (h : Ev (fun k => copydeskref02_Leq.l1 k (i + 1) x.u x.after x.ap x.den y.u y.after y.ap y.den) r) :
    Ev (fun k => copydeskref02_Leq.l1 k i x.u x.after x.ap x.den y.u y.after y.ap y.den) ((!Lab.bit x.den i || Lab.bit y.den i) && r) := by
  refine Ev.step (fun k => by rw [copydeskref02_Leq.l1]) (Ev_ifT (by omega) (Ev.bind (rbit_ev hx.2.2.2.2.2.2.1 hx.2.2.2.2.2.2.2 h0 h3) (Ev.bind (rbit_ev hy.2.2.2.2.2.2.1 hy.2.2.2.2.2.2.2 h0 h3) ?_)))
  rw [show wrap64 (i + 1) = i + 1 by unfold wrap64; omega]
  cases Lab.bit x.den i
  · exact Ev_ifF (by decide) h
  · refine Ev_ifT rfl ?_
    cases Lab.bit y.den i
    · exact Ev_ifF (by decide) (Ev.now _)
    · exact Ev_ifT rfl h
theorem rleq_bits (x y : Lab) (hx : Lab.Ok x) (hy : Lab.Ok y) : Ev (fun k => copydeskref02_Leq.l1 k 0 x.u x.after x.ap x.den y.u y.after y.ap y.den) (Lab.andNot x.den y.den == 0) := by
  have e : Ev (fun k => copydeskref02_Leq.l1 k 4 x.u x.after x.ap x.den y.u y.after y.ap y.den) true := Ev.step (fun k => by rw [copydeskref02_Leq.l1]) (Ev_ifF (by omega) (Ev.now _))
  have R := rleq_step x y hx hy 0 (by omega) (by omega) (rleq_step x y hx hy 1 (by omega) (by omega) (rleq_step x y hx hy 2 (by omega) (by omega) (rleq_step x y hx hy 3 (by omega) (by omega) e)))
  obtain ⟨a, ha⟩ := Lab.fin16 hx.2.2.2.2.2.2.1 hx.2.2.2.2.2.2.2
  obtain ⟨b, hb⟩ := Lab.fin16 hy.2.2.2.2.2.2.1 hy.2.2.2.2.2.2.2
  have e2 := rleq_bits16 a b
  rw [← ha, ← hb] at e2
  rw [← e2]
  exact R
theorem rleq_loop (x y : Lab) (hx : Lab.Ok x) (hy : Lab.Ok y) (hn : x.after.length ≤ 9223372036854775807) (ho : y.after.length ≤ 9223372036854775807) : ∀ (d : Nat) (i : Int), 0 ≤ i → i ≤ x.after.length → (x.after.length : Int) - i = d →
    Ev (fun k => copydeskref02_Leq.l0 k i x.u x.after x.ap x.den y.u y.after y.ap y.den) (Lab.sub (x.after.drop i.toNat) y.after && (Lab.andNot x.den y.den == 0)) := by
  intro d
  induction d with
  | zero =>
    intro i h0 h1 hd
    refine Ev.step (fun k => by rw [copydeskref02_Leq.l0]) (Ev_ifF (by omega) ?_)
    rw [List.drop_eq_nil_of_le (by omega), show Lab.sub [] y.after = true from Lab.sub_iff.2 (fun n hn => by cases hn), Bool.true_and]
    exact rleq_bits x y hx hy
  | succ d ih =>
    intro i h0 h1 hd
    have hlt : i < (x.after.length : Int) := by omega
    refine Ev.step (fun k => by rw [copydeskref02_Leq.l0]) (Ev_ifT hlt (Ev_ifT h0 (Ev.bind (rhas_ev y.after _ ho) ?_)))
    rw [rd_cons x.after i h0 hlt, sub_cons]
    by_cases c : rd x.after i ∈ y.after
    · rw [decide_eq_true c]
      refine Ev_ifT rfl ?_
      rw [wrapS h0 hlt hn]
      have IH := ih (i + 1) (by omega) (by omega) (by omega)
      rw [show (i + 1).toNat = i.toNat + 1 by omega] at IH
      rw [Bool.true_and]
      exact IH
    · rw [decide_eq_false c]
      exact Ev_ifF (by decide) (Ev.now _)
theorem rleq_ev (x y : Lab) (hn : x.after.length ≤ 9223372036854775807) (ho : y.after.length ≤ 9223372036854775807) : Ev (fun k => copydeskref02_Leq.f k x.u x.after x.ap x.den y.u y.after y.ap y.den) (Lab.leq x y) := by
  have T : Ev (fun k => copydeskref02_Leq.j0 k true x.u x.after x.ap x.den y.u y.after y.ap y.den) false := Ev.step (fun k => by rw [copydeskref02_Leq.j0]) (Ev_ifT rfl (Ev.now _))
  unfold copydeskref02_Leq.f
  refine Ev.bind (rvalid_ev x hn) (Ev.bind (rvalid_ev y ho) ?_)
  cases hv : Lab.valid x
  · rw [show Lab.leq x y = false by unfold Lab.leq; rw [hv]; simp]
    exact Ev_ifF (by decide) T
  refine Ev_ifT rfl ?_
  cases hw : Lab.valid y
  · rw [show Lab.leq x y = false by unfold Lab.leq; rw [hw]; simp]
    exact Ev_ifF (by decide) T
  refine Ev_ifT rfl ?_
  by_cases c1 : x.u > y.u
  · rw [show Lab.leq x y = false by unfold Lab.leq; rw [decide_eq_false (show ¬ x.u ≤ y.u by omega)]; simp]
    exact Ev_ifT c1 T
  refine Ev_ifF c1 ?_
  by_cases c2 : x.ap > y.ap
  · rw [show Lab.leq x y = false by unfold Lab.leq; rw [decide_eq_false (show ¬ x.ap ≤ y.ap by omega)]; simp, decide_eq_true c2]
    exact T
  rw [decide_eq_false c2]
  refine Ev.step (fun k => by rw [copydeskref02_Leq.j0]) (Ev_ifF (by decide) ?_)
  have R := rleq_loop x y (Lab.valid_iff.1 hv) (Lab.valid_iff.1 hw) hn ho x.after.length 0 (by omega) (by omega) (by omega)
  have e : Lab.leq x y = (Lab.sub (x.after.drop (0 : Int).toNat) y.after && (Lab.andNot x.den y.den == 0)) := by
    unfold Lab.leq
    rw [hv, hw, decide_eq_true (show x.u ≤ y.u by omega), decide_eq_true (show x.ap ≤ y.ap by omega)]
    simp
  rw [e]
  exact R
/-! Join -/
theorem rjoin_bits16 : ∀ a b : Fin 16, (if Lab.bit ((a : Nat) : Int) 3 || Lab.bit ((b : Nat) : Int) 3 then 8 else 0) + ((if Lab.bit ((a : Nat) : Int) 2 || Lab.bit ((b : Nat) : Int) 2 then 4 else 0) + ((if Lab.bit ((a : Nat) : Int) 1 || Lab.bit ((b : Nat) : Int) 1 then 2 else 0) + (if Lab.bit ((a : Nat) : Int) 0 || Lab.bit ((b : Nat) : Int) 0 then 1 else 0))) = Lab.orI ((a : Nat) : Int) ((b : Nat) : Int) := by decide +kernel
theorem rjoin_step (x y : Lab) (hx : Lab.Ok x) (hy : Lab.Ok y) (u ap : Int) (acc : List Int) (v i den : Int) (h0 : 0 ≤ i) (h3 : i ≤ 3) (v0 : 0 ≤ v) (v8 : v ≤ 8) (d0 : 0 ≤ den) (d7 : den ≤ 7) {r : Int × List Int × Int × Int}
    (h : Ev (fun k => copydeskref02_Join.l1 k (v * 2) (i + 1) x.u x.after x.ap x.den y.u y.after y.ap y.den u acc ap ((if Lab.bit x.den i || Lab.bit y.den i then v else 0) + den)) r) :
    Ev (fun k => copydeskref02_Join.l1 k v i x.u x.after x.ap x.den y.u y.after y.ap y.den u acc ap den) r := by
  refine Ev.step (fun k => by rw [copydeskref02_Join.l1]) (Ev_ifT (by omega) (Ev.bind (rbit_ev hx.2.2.2.2.2.2.1 hx.2.2.2.2.2.2.2 h0 h3) (Ev.bind (rbit_ev hy.2.2.2.2.2.2.1 hy.2.2.2.2.2.2.2 h0 h3) ?_)))
  rw [show wrap64 (i + 1) = i + 1 by unfold wrap64; omega, show wrap64 (v * 2) = v * 2 by unfold wrap64; omega, show wrap64 (den + v) = v + den by unfold wrap64; omega]
  cases hb : Lab.bit x.den i
  · refine Ev_ifF (by decide) ?_
    cases hc : Lab.bit y.den i
    · rw [hb, hc] at h
      exact Ev_ifF (by decide) (by simpa using h)
    · rw [hb, hc] at h
      exact Ev_ifT rfl (by simpa using h)
  · rw [hb] at h
    exact Ev_ifT rfl (by simpa using h)
theorem rjoin_bits (x y : Lab) (hx : Lab.Ok x) (hy : Lab.Ok y) (u ap : Int) (acc : List Int) : Ev (fun k => copydeskref02_Join.l1 k 1 0 x.u x.after x.ap x.den y.u y.after y.ap y.den u acc ap 0) (u, acc, ap, Lab.orI x.den y.den) := by
  refine rjoin_step x y hx hy u ap acc 1 0 0 (by omega) (by omega) (by omega) (by omega) (by omega) (by omega) ?_
  refine rjoin_step x y hx hy u ap acc (1 * 2) (0 + 1) _ (by omega) (by omega) (by omega) (by omega) (by split <;> omega) (by split <;> omega) ?_
  refine rjoin_step x y hx hy u ap acc (1 * 2 * 2) (0 + 1 + 1) _ (by omega) (by omega) (by omega) (by omega) (by split <;> split <;> omega) (by split <;> split <;> omega) ?_
  refine rjoin_step x y hx hy u ap acc (1 * 2 * 2 * 2) (0 + 1 + 1 + 1) _ (by omega) (by omega) (by omega) (by omega) (by split <;> split <;> split <;> omega) (by split <;> split <;> split <;> omega) ?_
  obtain ⟨a, ha⟩ := Lab.fin16 hx.2.2.2.2.2.2.1 hx.2.2.2.2.2.2.2
  obtain ⟨b, hb⟩ := Lab.fin16 hy.2.2.2.2.2.2.1 hy.2.2.2.2.2.2.2
  have e := rjoin_bits16 a b
  rw [← ha, ← hb] at e
  refine Ev.step (fun k => by rw [copydeskref02_Join.l1]) (Ev_ifF (by omega) ?_)
  have e2 : (if (Lab.bit x.den (0 + 1 + 1 + 1) || Lab.bit y.den (0 + 1 + 1 + 1)) = true then (1 * 2 * 2 * 2 : Int) else 0) + ((if (Lab.bit x.den (0 + 1 + 1) || Lab.bit y.den (0 + 1 + 1)) = true then 1 * 2 * 2 else 0) + ((if (Lab.bit x.den (0 + 1) || Lab.bit y.den (0 + 1)) = true then 1 * 2 else 0) + ((if (Lab.bit x.den 0 || Lab.bit y.den 0) = true then 1 else 0) + 0))) = Lab.orI x.den y.den := by
    rw [← e]
    simp only [Int.add_zero]
    rfl
  rw [e2]
  exact Ev.now _
/-- the stories of two labels, in order -/
def fl (a b : List Int) : Nat → Int → List Int
  | 0, _ => []
  | d + 1, i => if decide (i ∈ a) || decide (i ∈ b) then i :: fl a b d (i + 1) else fl a b d (i + 1)
theorem fl_mem (a b : List Int) : ∀ (d : Nat) (i n : Int), n ∈ fl a b d i ↔ i ≤ n ∧ n < i + d ∧ (n ∈ a ∨ n ∈ b)
  | 0, i, n => by simp [fl]; omega
  | d + 1, i, n => by
    have ih := fl_mem a b d (i + 1) n
    unfold fl
    split
    · rename_i h
      rw [Bool.or_eq_true, decide_eq_true_iff, decide_eq_true_iff] at h
      rw [List.mem_cons, ih]
      constructor
      · rintro (rfl | ⟨h1, h2, h3⟩)
        · exact ⟨by omega, by omega, h⟩
        · exact ⟨by omega, by omega, h3⟩
      · rintro ⟨h1, h2, h3⟩
        by_cases e : n = i
        · exact .inl e
        · exact .inr ⟨by omega, by omega, h3⟩
    · rename_i h
      rw [Bool.or_eq_true, decide_eq_true_iff, decide_eq_true_iff] at h
      rw [ih]
      constructor
      · rintro ⟨h1, h2, h3⟩
        exact ⟨by omega, by omega, h3⟩
      · rintro ⟨h1, h2, h3⟩
        refine ⟨?_, by omega, h3⟩
        by_cases e : n = i
        · subst e; exact absurd h3 h
        · omega
theorem fl_asc (a b : List Int) : ∀ (d : Nat) (i : Int), Lab.asc (fl a b d i)
  | 0, i => List.Pairwise.nil
  | d + 1, i => by
    unfold fl
    split
    · exact List.pairwise_cons.2 ⟨fun n hn => by have := (fl_mem a b d (i + 1) n).1 hn; omega, fl_asc a b d (i + 1)⟩
    · exact fl_asc a b d (i + 1)
theorem rjoin_loop (x y : Lab) (hx : Lab.Ok x) (hy : Lab.Ok y) (u ap den : Int) (hn : x.after.length ≤ 9223372036854775807) (ho : y.after.length ≤ 9223372036854775807) : ∀ (d : Nat) (i : Int) (acc : List Int), 1 ≤ i → i ≤ 65 → 65 - i = d → (acc.length : Int) < i →
    Ev (fun k => copydeskref02_Join.l0 k i x.u x.after x.ap x.den y.u y.after y.ap y.den u acc ap den) (u, acc ++ fl x.after y.after d i, ap, Lab.orI x.den y.den) := by
  intro d
  induction d with
  | zero =>
    intro i acc h0 h1 hd hl
    rw [show fl x.after y.after 0 i = [] from rfl, List.append_nil]
    exact Ev.step (fun k => by rw [copydeskref02_Join.l0]) (Ev_ifF (by omega) (rjoin_bits x y hx hy u ap acc))
  | succ d ih =>
    intro i acc h0 h1 hd hl
    have IH0 := ih (i + 1) acc (by omega) (by omega) (by omega) (by omega)
    have IH1 := ih (i + 1) (acc ++ [i]) (by omega) (by omega) (by omega) (by rw [List.length_append, List.length_singleton]; omega)
    rw [List.append_assoc, List.singleton_append] at IH1
    refine Ev.step (fun k => by rw [copydeskref02_Join.l0]) (Ev_ifT (by omega) (Ev.bind (rhas_ev x.after i hn) (Ev.bind (rhas_ev y.after i ho) ?_)))
    rw [show wrap64 (i + 1) = i + 1 by unfold wrap64; omega]
    unfold fl
    by_cases c1 : i ∈ x.after
    · rw [decide_eq_true c1, Bool.true_or]
      exact Ev_ifT rfl (Ev_ifT (by omega) IH1)
    · rw [decide_eq_false c1, Bool.false_or]
      refine Ev_ifF (by decide) ?_
      by_cases c2 : i ∈ y.after
      · rw [decide_eq_true c2]
        exact Ev_ifT rfl (Ev_ifT (by omega) IH1)
      · rw [decide_eq_false c2]
        exact Ev_ifF (by decide) IH0
theorem rjoin_ev (x y : Lab) (hn : x.after.length ≤ 9223372036854775807) (ho : y.after.length ≤ 9223372036854775807) :
    Ev (fun k => copydeskref02_Join.f k x.u x.after x.ap x.den y.u y.after y.ap y.den) ((Lab.join x y).u, (Lab.join x y).after, (Lab.join x y).ap, (Lab.join x y).den) := by
  have T : Ev (fun k => copydeskref02_Join.j0 k true x.u x.after x.ap x.den y.u y.after y.ap y.den) (0, [], 0, 0) := Ev.step (fun k => by rw [copydeskref02_Join.j0]) (Ev_ifT rfl (Ev.now _))
  unfold copydeskref02_Join.f
  refine Ev.bind (rvalid_ev x hn) (Ev.bind (rvalid_ev y ho) ?_)
  cases hv : Lab.valid x
  · rw [show Lab.join x y = Lab.zero by unfold Lab.join; rw [hv]; rfl]
    exact Ev_ifF (by decide) T
  refine Ev_ifT rfl ?_
  cases hw : Lab.valid y
  · rw [show Lab.join x y = Lab.zero by unfold Lab.join; rw [hw, Bool.and_false]; rfl]
    exact T
  have hx := Lab.valid_iff.1 hv
  have hy := Lab.valid_iff.1 hw
  rw [Lab.join_of hx hy]
  have hm : Lab.merge (x.after ++ y.after) = fl x.after y.after 64 1 := Lab.merge_asc (fl_asc _ _ _ _) (by
    intro n
    rw [fl_mem, List.mem_append]
    constructor
    · intro h
      have : 1 ≤ n ∧ n ≤ 64 := h.elim (hx.2.2.1 n) (hy.2.2.1 n)
      exact ⟨by omega, by omega, h⟩
    · exact fun h => h.2.2)
  have J2 : ∀ u ap den, Ev (fun k => copydeskref02_Join.j2 k x.u x.after x.ap x.den y.u y.after y.ap y.den u ap den) (u, fl x.after y.after 64 1, ap, Lab.orI x.den y.den) := fun u ap den =>
    Ev.step (fun k => by rw [copydeskref02_Join.j2]) (rjoin_loop x y hx hy u ap den hn ho 64 1 [] (by omega) (by omega) (by omega) (by simp))
  have J1 : ∀ u, Ev (fun k => copydeskref02_Join.j1 k x.u x.after x.ap x.den y.u y.after y.ap y.den u x.ap x.den) (u, fl x.after y.after 64 1, Lab.mx x.ap y.ap, Lab.orI x.den y.den) := fun u => by
    refine Ev.step (fun k => by rw [copydeskref02_Join.j1]) ?_
    by_cases c : y.ap > x.ap
    · rw [show Lab.mx x.ap y.ap = y.ap by unfold Lab.mx; split <;> omega]
      exact Ev_ifT c (J2 _ _ _)
    · rw [show Lab.mx x.ap y.ap = x.ap by unfold Lab.mx; split <;> omega]
      exact Ev_ifF c (J2 _ _ _)
  rw [hm]
  refine Ev.step (fun k => by rw [copydeskref02_Join.j0]) (Ev_ifF (by decide) ?_)
  by_cases c : y.u > x.u
  · rw [show Lab.mx x.u y.u = y.u by unfold Lab.mx; split <;> omega]
    exact Ev_ifT c (J1 _)
  · rw [show Lab.mx x.u y.u = x.u by unfold Lab.mx; split <;> omega]
    exact Ev_ifF c (J1 _)
end Go.Proofs.Ytngckofkbkhomaa
