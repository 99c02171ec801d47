/- The reference's functions (copydeskref02) by closed forms: they are the package's own. -/
import Derived.Test.YtngckofkbkhomaaHLabSpec
namespace Go.Proofs.Ytngckofkbkhomaa
open Go.RowKit Go.Proofs.Ytngckofkbkhomaa.PBase Go.Proofs.YtngckofkbkhomaaW.PrintWords Go.Proofs.YtngckofkbkhomaaW.PrintLast Go.Proofs.YtngckofkbkhomaaW.PrintMore
set_option linter.unusedVariables false
theorem rhas_loop (l : List Int) (n : Int) (hn : l.length ≤ 9223372036854775807) : ∀ (d : Nat) (i : Int), 0 ≤ i → i ≤ l.length → (l.length : Int) - i = d →
    Ev (fun k => copydeskref02_Has.l0 k l n i) (decide (n ∈ l.drop i.toNat)) := by
  intro d
  induction d with
  | zero =>
    intro i h0 h1 hd
    refine Ev.step (fun k => by rw [copydeskref02_Has.l0]) (Ev_ifF (by omega) ?_)
    rw [List.drop_eq_nil_of_le (by omega), decide_eq_false (by simp)]
    exact Ev.now _
  | succ d ih =>
    intro i h0 h1 hd
    have hlt : i < (l.length : Int) := by omega
    refine Ev.step (fun k => by rw [copydeskref02_Has.l0]) (Ev_ifT hlt (Ev_ifT h0 ?_))
    rw [rd_cons l i h0 hlt]
    by_cases c : rd l i = n
    · rw [decide_eq_true (by rw [c]; exact List.mem_cons_self ..)]
      exact Ev_ifT c (Ev.now _)
    · refine Ev_ifF c ?_
      rw [wrapS h0 hlt hn]
      have IH := ih (i + 1) (by omega) (by omega) (by omega)
      rw [show (i + 1).toNat = i.toNat + 1 by omega] at IH
      rw [dec_eq (q := n ∈ l.drop (i.toNat + 1)) (by rw [List.mem_cons]; exact ⟨fun h => h.elim (fun e => absurd e.symm c) id, Or.inr⟩)]
      exact IH
theorem rhas_ev (l : List Int) (n : Int) (hn : l.length ≤ 9223372036854775807) : Ev (fun k => copydeskref02_Has.f k l n) (decide (n ∈ l)) :=
  rhas_loop l n hn l.length 0 (by omega) (by omega) (by omega)
theorem rbit16 : ∀ a : Fin 16, ∀ c : Fin 4, copydeskref02_Bit.f 5 ((a : Nat) : Int) ((c : Nat) : Int) = some (Lab.bit ((a : Nat) : Int) ((c : Nat) : Int)) := by decide +kernel
theorem rbit_ev {d c : Int} (h0 : 0 ≤ d) (h1 : d ≤ 15) (c0 : 0 ≤ c) (c1 : c ≤ 3) : Ev (fun k => copydeskref02_Bit.f k d c) (Lab.bit d c) := by
  obtain ⟨x, rfl⟩ := Lab.fin16 h0 h1
  obtain ⟨z, rfl⟩ : ∃ z : Fin 4, c = (z : Nat) := ⟨⟨c.toNat, by omega⟩, by simp; omega⟩
  exact Ev.of (fun k => copydeskref02_Bit.mono _ _ k) (rbit16 x z)
/-- ascending behind a number, and at most 64 -/
def rasc : Int → List Int → Bool
  | _, [] => true
  | m, n :: l => decide (m < n) && decide (n ≤ 64) && rasc n l
theorem rasc_iff : ∀ (m : Int) (l : List Int), rasc m l = true ↔ Lab.asc l ∧ ∀ n ∈ l, m < n ∧ n ≤ 64
  | m, [] => by simp [rasc, Lab.asc]
  | m, n :: l => by
    simp only [rasc, Bool.and_eq_true, decide_eq_true_eq, rasc_iff n l, Lab.asc, List.pairwise_cons, List.mem_cons, forall_eq_or_imp]
    constructor
    · rintro ⟨⟨h1, h2⟩, h3, h4⟩
      exact ⟨⟨fun a ha => (h4 a ha).1, h3⟩, ⟨h1, h2⟩, fun a ha => ⟨by have := (h4 a ha).1; omega, (h4 a ha).2⟩⟩
    · rintro ⟨⟨h1, h2⟩, ⟨h3, h4⟩, h5⟩
      exact ⟨⟨h3, h4⟩, h2, fun a ha => ⟨h1 a ha, (h5 a ha).2⟩⟩
theorem rvalid_loop (u : Int) (l : List Int) (ap den : Int) (hn : l.length ≤ 9223372036854775807) : ∀ (d : Nat) (i m : Int), 0 ≤ i → i ≤ l.length → (l.length : Int) - i = d →
    Ev (fun k => copydeskref02_Valid.l0 k m i u l ap den) (rasc m (l.drop i.toNat)) := by
  intro d
  induction d with
  | zero =>
    intro i m h0 h1 hd
    refine Ev.step (fun k => by rw [copydeskref02_Valid.l0]) (Ev_ifF (by omega) ?_)
    rw [List.drop_eq_nil_of_le (by omega)]
    exact Ev.now _
  | succ d ih =>
    intro i m h0 h1 hd
    have hlt : i < (l.length : Int) := by omega
    refine Ev.step (fun k => by rw [copydeskref02_Valid.l0]) (Ev_ifT hlt (Ev_ifT h0 ?_))
    rw [rd_cons l i h0 hlt]
    simp only [rasc]
    by_cases c1 : rd l i ≤ m
    · rw [decide_eq_false (show ¬ m < rd l i by omega)]
      exact Ev_ifT c1 (Ev.now _)
    · refine Ev_ifF c1 ?_
      rw [decide_eq_true (show m < rd l i by omega)]
      by_cases c2 : rd l i > 64
      · rw [decide_eq_false (show ¬ rd l i ≤ 64 by omega)]
        exact Ev_ifT c2 (Ev.now _)
      · refine Ev_ifF c2 ?_
        rw [decide_eq_true (show rd l i ≤ 64 by omega), wrapS h0 hlt hn]
        have IH := ih (i + 1) (rd l i) (by omega) (by omega) (by omega)
        rw [show (i + 1).toNat = i.toNat + 1 by omega] at IH
        exact IH
theorem rvalid_j (u : Int) (l : List Int) (ap den : Int) (hn : l.length ≤ 9223372036854775807) (b : Bool) : Ev (fun k => copydeskref02_Valid.j0 k b u l ap den) (!b && rasc 0 l) := by
  cases b
  · exact Ev.step (fun k => by rw [copydeskref02_Valid.j0]) (Ev_ifF (by decide) (rvalid_loop u l ap den hn l.length 0 0 (by omega) (by omega) (by omega)))
  · show Ev (fun k => copydeskref02_Valid.j0 k true u l ap den) false
    exact Ev.step (fun k => by rw [copydeskref02_Valid.j0]) (Ev_ifT rfl (Ev.now _))
theorem rvalid_eq (x : Lab) : Lab.valid x = (decide (0 ≤ x.u) && decide (x.u ≤ 1000000000) && decide (0 ≤ x.ap) && decide (x.ap ≤ 5) && decide (0 ≤ x.den) && decide (x.den ≤ 15) && rasc 0 x.after) := by
  rw [Bool.eq_iff_iff, Lab.valid_iff]
  simp only [Bool.and_eq_true, decide_eq_true_eq, rasc_iff, Lab.Ok]
  constructor
  · rintro ⟨h1, h2, h3, h4, h5, h6, h7, h8⟩
    exact ⟨⟨⟨⟨⟨⟨h1, h2⟩, h5⟩, h6⟩, h7⟩, h8⟩, h4, fun n hn => by have := h3 n hn; omega⟩
  · rintro ⟨⟨⟨⟨⟨⟨h1, h2⟩, h5⟩, h6⟩, h7⟩, h8⟩, h4, h3⟩
    exact ⟨h1, h2, fun n hn => by have := h3 n hn; omega, h4, h5, h6, h7, h8⟩
theorem rvalid_ev (x : Lab) (hn : x.after.length ≤ 9223372036854775807) : Ev (fun k => copydeskref02_Valid.f k x.u x.after x.ap x.den) (Lab.valid x) := by
  have T := rvalid_j x.u x.after x.ap x.den hn true
  unfold copydeskref02_Valid.f
  rw [rvalid_eq]
  by_cases c1 : x.u < 0
  · rw [decide_eq_false (show ¬ 0 ≤ x.u by omega)]; exact Ev_ifT c1 (by simpa using T)
  by_cases c2 : x.u > 1000000000
  · rw [decide_eq_false (show ¬ x.u ≤ 1000000000 by omega)]; exact Ev_ifF c1 (Ev_ifT c2 (by simpa using T))
  by_cases c3 : x.ap < 0
  · rw [decide_eq_false (show ¬ 0 ≤ x.ap by omega)]; exact Ev_ifF c1 (Ev_ifF c2 (Ev_ifT c3 (by simpa using T)))
  by_cases c4 : x.ap > 5
  · rw [decide_eq_false (show ¬ x.ap ≤ 5 by omega)]; exact Ev_ifF c1 (Ev_ifF c2 (Ev_ifF c3 (Ev_ifT c4 (by simpa using T))))
  by_cases c5 : x.den < 0
  · rw [decide_eq_false (show ¬ 0 ≤ x.den by omega)]; exact Ev_ifF c1 (Ev_ifF c2 (Ev_ifF c3 (Ev_ifF c4 (Ev_ifT c5 (by simpa using T)))))
  rw [decide_eq_true (show 0 ≤ x.u by omega), decide_eq_true (show x.u ≤ 1000000000 by omega), decide_eq_true (show 0 ≤ x.ap by omega), decide_eq_true (show x.ap ≤ 5 by omega), decide_eq_true (show 0 ≤ x.den by omega)]
  have R := rvalid_j x.u x.after x.ap x.den hn (decide (x.den > 15))
  rw [show (!decide (x.den > 15)) = decide (x.den ≤ 15) by rw [Bool.eq_iff_iff]; simp] at R
  exact Ev_ifF c1 (Ev_ifF c2 (Ev_ifF c3 (Ev_ifF c4 (Ev_ifF c5 (by simpa using R)))))
/-! Allows -/
theorem sub_cons (n : Int) (l out : List Int) : Lab.sub (n :: l) out = (decide (n ∈ out) && Lab.sub l out) := by
  rw [Bool.eq_iff_iff, Bool.and_eq_true, Lab.sub_iff, Lab.sub_iff, decide_eq_true_iff]
  simp only [List.mem_cons, forall_eq_or_imp]
theorem rallows_loop (x : Lab) (hx : Lab.Ok x) (c : Int) (c0 : 0 ≤ c) (c1 : c ≤ 3) (out : List Int) (hn : x.after.length ≤ 9223372036854775807) (ho : out.length ≤ 9223372036854775807) : ∀ (d : Nat) (i : Int), 0 ≤ i → i ≤ x.after.length → (x.after.length : Int) - i = d →
    Ev (fun k => copydeskref02_Allows.l0 k c out i x.u x.after x.ap x.den) (Lab.sub (x.after.drop i.toNat) out && !Lab.bit x.den c) := by
  intro d
  induction d with
  | zero =>
    intro i h0 h1 hd
    refine Ev.step (fun k => by rw [copydeskref02_Allows.l0]) (Ev_ifF (by omega) ?_)
    rw [List.drop_eq_nil_of_le (by omega), show Lab.sub [] out = true from Lab.sub_iff.2 (fun n hn => by cases hn), Bool.true_and]
    exact Ev.bind (rbit_ev hx.2.2.2.2.2.2.1 hx.2.2.2.2.2.2.2 c0 c1) (Ev.now _)
  | succ d ih =>
    intro i h0 h1 hd
    have hlt : i < (x.after.length : Int) := by omega
    refine Ev.step (fun k => by rw [copydeskref02_Allows.l0]) (Ev_ifT hlt (Ev_ifT h0 (Ev.bind (rhas_ev out _ ho) ?_)))
    rw [rd_cons x.after i h0 hlt, sub_cons]
    by_cases c : rd x.after i ∈ out
    · rw [decide_eq_true c]
      refine Ev_ifT rfl ?_
      rw [wrapS h0 hlt hn]
      have IH := ih (i + 1) (by omega) (by omega) (by omega)
      rw [show (i + 1).toNat = i.toNat + 1 by omega] at IH
      rw [Bool.true_and]
      exact IH
    · rw [decide_eq_false c]
      exact Ev_ifF (by decide) (Ev.now _)
theorem rallows_ev (x : Lab) (c now : Int) (out : List Int) (n : Int) (hn : x.after.length ≤ 9223372036854775807) (ho : out.length ≤ 9223372036854775807) :
    Ev (fun k => copydeskref02_Allows.f k x.u x.after x.ap x.den c now out n) (Lab.allows x c now out n) := by
  have T : Ev (fun k => copydeskref02_Allows.j0 k c out true x.u x.after x.ap x.den) false := Ev.step (fun k => by rw [copydeskref02_Allows.j0]) (Ev_ifT rfl (Ev.now _))
  unfold copydeskref02_Allows.f
  refine Ev.bind (rvalid_ev x hn) ?_
  cases hv : Lab.valid x
  · rw [show Lab.allows x c now out n = false by unfold Lab.allows; rw [hv]; simp]
    exact Ev_ifF (by decide) T
  refine Ev_ifT rfl ?_
  by_cases c1 : c < 0
  · rw [show Lab.allows x c now out n = false by unfold Lab.allows; rw [decide_eq_false (show ¬ (0 ≤ c ∧ c ≤ 3) by omega)]; simp]
    exact Ev_ifT c1 T
  by_cases c2 : c > 3
  · rw [show Lab.allows x c now out n = false by unfold Lab.allows; rw [decide_eq_false (show ¬ (0 ≤ c ∧ c ≤ 3) by omega)]; simp]
    exact Ev_ifF c1 (Ev_ifT c2 T)
  by_cases c3 : now < x.u
  · rw [show Lab.allows x c now out n = false by unfold Lab.allows; rw [decide_eq_false (show ¬ now ≥ x.u by omega)]; simp]
    exact Ev_ifF c1 (Ev_ifF c2 (Ev_ifT c3 T))
  refine Ev_ifF c1 (Ev_ifF c2 (Ev_ifF c3 ?_))
  by_cases c4 : n < x.ap
  · rw [show Lab.allows x c now out n = false by unfold Lab.allows; rw [decide_eq_false (show ¬ n ≥ x.ap by omega)]; simp, decide_eq_true c4]
    exact T
  rw [decide_eq_false c4]
  refine Ev.step (fun k => by rw [copydeskref02_Allows.j0]) (Ev_ifF (by decide) ?_)
  have R := rallows_loop x (Lab.valid_iff.1 hv) c (by omega) (by omega) out hn ho x.after.length 0 (by omega) (by omega) (by omega)
  have e : Lab.allows x c now out n = (Lab.sub (x.after.drop (0 : Int).toNat) out && !Lab.bit x.den c) := by
    unfold Lab.allows
    rw [hv, decide_eq_true (show 0 ≤ c ∧ c ≤ 3 by omega), decide_eq_true (show now ≥ x.u by omega), decide_eq_true (show n ≥ x.ap by omega)]
    simp only [Int.toNat_zero, List.drop_zero, Bool.and_true, Bool.true_and]
    exact Bool.and_comm _ _
  rw [e]
  exact R
end Go.Proofs.Ytngckofkbkhomaa
