/- What the printed plain functions of package label tell: the labels' plain laws' own functions. -/
import Derived.Test.YtngckofkbkhomaaHLabPure
import Derived.Test.YtngckofkbkhomaaPBasex1
import Derived.Test.YtngckofkbkhomaaPBasex2
import Derived.Test.YtngckofkbkhomaaPBasex3
import Derived.Test.YtngckofkbkhomaaPBasex4
import Derived.Test.YtngckofkbkhomaaPBasex5
import Derived.Test.YtngckofkbkhomaaPBasex6
import Derived.Test.YtngckofkbkhomaaPBasex7
namespace Go.Proofs.Ytngckofkbkhomaa
open Go.RowKit Go.Proofs.Ytngckofkbkhomaa.PBase Go.Proofs.YtngckofkbkhomaaW.PrintWords Go.Proofs.YtngckofkbkhomaaW.PrintLast Go.Proofs.YtngckofkbkhomaaW.PrintMore
set_option linter.unusedVariables false
theorem Ev_ifT {α : Type} {c : Prop} [Decidable c] {f g : Nat → Option α} {r : α} (hc : c) (h : Ev f r) : Ev (fun k => if c then f k else g k) r :=
  Ev.congr (fun _ => if_pos hc) h
theorem Ev_ifF {α : Type} {c : Prop} [Decidable c] {f g : Nat → Option α} {r : α} (hc : ¬ c) (h : Ev g r) : Ev (fun k => if c then f k else g k) r :=
  Ev.congr (fun _ => if_neg hc) h
/-- if b then (what tells r) else false -/
theorem Ev_and {b : Bool} {f : Nat → Option Bool} {r : Bool} (h : Ev f r) : Ev (fun k => if b = true then f k else some false) (b && r) := by
  cases b
  · exact Ev_ifF (by decide) (Ev.now _)
  · rw [Bool.true_and]; exact Ev_ifT rfl h
theorem wrapS {i : Int} {n : Nat} (h0 : 0 ≤ i) (h : i < (n : Int)) (hn : n ≤ 9223372036854775807) : wrap64 (i + 1) = i + 1 := by unfold wrap64; omega
theorem dec_eq {p q : Prop} [Decidable p] [Decidable q] (h : p ↔ q) : decide p = decide q := decide_eq_decide.2 h

theorem in_cons (lo hi x : Int) (l : List Int) (h : lo ≤ x ∧ x ≤ hi) : decide (∀ n ∈ x :: l, lo ≤ n ∧ n ≤ hi) = decide (∀ n ∈ l, lo ≤ n ∧ n ≤ hi) := by
  rw [decide_eq_decide]
  constructor
  · intro h n hn; exact h n (List.mem_cons_of_mem _ hn)
  · intro h' n hn
    rcases List.mem_cons.1 hn with rfl | hn
    · exact h
    · exact h' n hn
theorem within_loop (lo hi : Int) (l : List Int) (hn : l.length ≤ 9223372036854775807) : ∀ (d : Nat) (i : Int), 0 ≤ i → i ≤ l.length → (l.length : Int) - i = d →
    Ev (fun k => label_within.l0 k lo hi l (l.length : Int) i) (decide (∀ n ∈ l.drop i.toNat, lo ≤ n ∧ n ≤ hi)) := by
  intro d
  induction d with
  | zero =>
    intro i h0 h1 hd
    refine Ev.step (fun k => by rw [label_within.l0]) (Ev_ifF (by omega) ?_)
    rw [List.drop_eq_nil_of_le (by omega), decide_eq_true (by simp)]
    exact Ev.now _
  | succ d ih =>
    intro i h0 h1 hd
    have hlt : i < (l.length : Int) := by omega
    refine Ev.step (fun k => by rw [label_within.l0]) (Ev_ifT hlt (Ev_ifT h0 (Ev_ifT hlt ?_)))
    rw [rd_cons l i h0 hlt]
    by_cases c1 : rd l i < lo
    · rw [decide_eq_false (by intro h; have := h (rd l i) (by simp); omega)]
      exact Ev_ifT c1 (Ev.now _)
    · refine Ev_ifF c1 ?_
      by_cases c2 : rd l i > hi
      · rw [decide_eq_false (by intro h; have := h (rd l i) (by simp); omega)]
        exact Ev_ifT c2 (Ev.now _)
      · refine Ev_ifF c2 ?_
        rw [wrapS h0 hlt hn]
        have IH := ih (i + 1) (by omega) (by omega) (by omega)
        rw [show (i + 1).toNat = i.toNat + 1 by omega] at IH
        rw [in_cons lo hi (rd l i) _ (by omega)]
        exact IH
theorem within_ev (lo hi : Int) (l : List Int) (hn : l.length ≤ 9223372036854775807) : Ev (fun k => label_within.f k lo hi l) (decide (∀ n ∈ l, lo ≤ n ∧ n ≤ hi)) := by
  unfold label_within.f
  exact within_loop lo hi l hn l.length 0 (by omega) (by omega) (by omega)
theorem within_one (lo hi a : Int) : Ev (fun k => label_within.f k lo hi [a]) (decide (lo ≤ a ∧ a ≤ hi)) := by
  have := within_ev lo hi [a] (by simp)
  rwa [dec_eq (q := lo ≤ a ∧ a ≤ hi) (by simp)] at this

theorem asc_loop (l : List Int) (hn : l.length ≤ 9223372036854775807) : ∀ (d : Nat) (i : Int), 1 ≤ i → (i ≤ l.length ∨ i = 1) → max ((l.length : Int) - i) 0 = d →
    Ev (fun k => label_ascending_int.l0 k l i) (decide (Lab.asc (l.drop (i - 1).toNat))) := by
  intro d
  induction d with
  | zero =>
    intro i h0 h1 hd
    refine Ev.step (fun k => by rw [label_ascending_int.l0]) (Ev_ifF (by omega) ?_)
    rw [decide_eq_true]
    · exact Ev.now _
    · have hl : (l.drop (i - 1).toNat).length ≤ 1 := by rw [List.length_drop]; omega
      match h : l.drop (i - 1).toNat, hl with
      | [], _ => exact List.Pairwise.nil
      | [a], _ => exact List.pairwise_singleton _ _
  | succ d ih =>
    intro i h0 h1 hd
    have hlt : i < (l.length : Int) := by omega
    have hw : wrap64 (i - 1) = i - 1 := by unfold wrap64; omega
    refine Ev.step (fun k => by rw [label_ascending_int.l0]) (Ev_ifT hlt ?_)
    rw [hw]
    refine Ev_ifT (by omega) (Ev_ifT (by omega) (Ev_ifT (by omega) ?_))
    have IH := ih (i + 1) (by omega) (by omega) (by omega)
    rw [show (i + 1 - 1).toNat = i.toNat by omega, rd_cons l i (by omega) hlt] at IH
    rw [rd_cons l (i - 1) (by omega) (by omega), show (i - 1).toNat + 1 = i.toNat by omega, rd_cons l i (by omega) hlt]
    by_cases c : rd l (i - 1) ≥ rd l i
    · rw [decide_eq_false (by intro h; have := (List.pairwise_cons.1 h).1 (rd l i) (by simp); omega)]
      exact Ev_ifT c (Ev.now _)
    · refine Ev_ifF c ?_
      rw [wrapS (by omega) hlt hn]
      rw [dec_eq (q := Lab.asc (rd l i :: l.drop (i.toNat + 1)))]
      · exact IH
      · constructor
        · intro h; exact (List.pairwise_cons.1 h).2
        · intro h
          refine List.pairwise_cons.2 ⟨fun n hn => ?_, h⟩
          rcases List.mem_cons.1 hn with rfl | hn
          · omega
          · have := (List.pairwise_cons.1 h).1 n hn; omega
theorem asc_ev (l : List Int) (hn : l.length ≤ 9223372036854775807) : Ev (fun k => label_ascending_int.f k l) (decide (Lab.asc l)) := by
  unfold label_ascending_int.f
  have := asc_loop l hn _ 1 (by omega) (.inr rfl) (Int.toNat_of_nonneg (by omega)).symm
  simpa using this
theorem valid_ev (x : Lab) (hn : x.after.length ≤ 9223372036854775807) : Ev (fun k => label_Valid.f k x.u x.after x.ap x.den) (Lab.valid x) := by
  unfold label_Valid.f
  have e : Lab.valid x = (decide (0 ≤ x.u ∧ x.u ≤ 1000000000) && (decide (∀ n ∈ x.after, 1 ≤ n ∧ n ≤ 64) && (decide (Lab.asc x.after) && (decide (0 ≤ x.ap ∧ x.ap ≤ 5) && decide (0 ≤ x.den ∧ x.den ≤ 15))))) := by
    rw [Bool.eq_iff_iff, Lab.valid_iff]
    simp only [Bool.and_eq_true, decide_eq_true_eq, Lab.Ok]
    constructor
    · rintro ⟨h1, h2, h3, h4, h5, h6, h7, h8⟩; exact ⟨⟨h1, h2⟩, h3, h4, ⟨h5, h6⟩, h7, h8⟩
    · rintro ⟨⟨h1, h2⟩, h3, h4, ⟨h5, h6⟩, h7, h8⟩; exact ⟨h1, h2, h3, h4, h5, h6, h7, h8⟩
  rw [e]
  refine Ev.bind (within_one _ _ _) (Ev_and ?_)
  refine Ev.bind (within_ev _ _ _ hn) (Ev_and ?_)
  refine Ev.bind (asc_ev _ hn) (Ev_and ?_)
  refine Ev.bind (within_one _ _ _) (Ev_and ?_)
  exact Ev.bind (within_one _ _ _) (Ev.now _)

theorem equal_loop (a b : List Int) (hab : a.length = b.length) (hn : a.length ≤ 9223372036854775807) : ∀ (d : Nat) (i : Int), 0 ≤ i → i ≤ a.length → (a.length : Int) - i = d →
    Ev (fun k => slices_Equal_int_int.l0 k a b (a.length : Int) i) (decide (a.drop i.toNat = b.drop i.toNat)) := by
  intro d
  induction d with
  | zero =>
    intro i h0 h1 hd
    refine Ev.step (fun k => by rw [slices_Equal_int_int.l0]) (Ev_ifF (by omega) ?_)
    rw [List.drop_eq_nil_of_le (by omega), List.drop_eq_nil_of_le (by omega), decide_eq_true rfl]
    exact Ev.now _
  | succ d ih =>
    intro i h0 h1 hd
    have hlt : i < (a.length : Int) := by omega
    have hlt2 : i < (b.length : Int) := by omega
    refine Ev.step (fun k => by rw [slices_Equal_int_int.l0]) (Ev_ifT hlt (Ev_ifT h0 (Ev_ifT hlt (Ev_ifT hlt2 ?_))))
    rw [rd_cons a i h0 hlt, rd_cons b i h0 hlt2]
    by_cases c : rd a i = rd b i
    · refine Ev_ifT c ?_
      rw [wrapS h0 hlt hn, dec_eq (q := a.drop (i.toNat + 1) = b.drop (i.toNat + 1)) (by rw [c]; simp)]
      have IH := ih (i + 1) (by omega) (by omega) (by omega)
      rwa [show (i + 1).toNat = i.toNat + 1 by omega] at IH
    · rw [decide_eq_false (by intro h; injection h with h _; exact c h)]
      exact Ev_ifF c (Ev.now _)
theorem equal_ev (a b : List Int) (hn : a.length ≤ 9223372036854775807) : Ev (fun k => slices_Equal_int_int.f k a b) (decide (a = b)) := by
  unfold slices_Equal_int_int.f
  by_cases h : a.length = b.length
  · refine Ev_ifT (by omega) ?_
    exact equal_loop a b h hn a.length 0 (by omega) (by omega) (by omega)
  · rw [decide_eq_false (by intro e; exact h (by rw [e]))]
    exact Ev_ifF (by omega) (Ev.now _)
theorem lab_eq (x y : Lab) : x = y ↔ x.u = y.u ∧ x.after = y.after ∧ x.ap = y.ap ∧ x.den = y.den := by
  cases x; cases y; simp
theorem same_ev (x y : Lab) (hn : x.after.length ≤ 9223372036854775807) : Ev (fun k => label_Same.f k x.u x.after x.ap x.den y.u y.after y.ap y.den) (decide (x = y)) := by
  unfold label_Same.f
  rw [dec_eq (lab_eq x y)]
  by_cases h1 : x.u = y.u
  · refine Ev_ifT h1 (Ev.bind (equal_ev _ _ hn) ?_)
    by_cases h2 : x.after = y.after
    · rw [decide_eq_true h2]
      refine Ev_ifT rfl ?_
      by_cases h3 : x.ap = y.ap
      · refine Ev_ifT h3 ?_
        rw [dec_eq (q := x.den = y.den) (by simp [h1, h2, h3])]
        have : (x.den == y.den) = decide (x.den = y.den) := by rw [Bool.eq_iff_iff, beq_iff_eq, decide_eq_true_iff]
        rw [this]
        exact Ev.now _
      · rw [decide_eq_false (by simp [h3])]
        exact Ev_ifF h3 (Ev.now _)
    · rw [decide_eq_false h2, decide_eq_false (by simp [h2])]
      exact Ev_ifF (by decide) (Ev.now _)
  · rw [decide_eq_false (by simp [h1])]
    exact Ev_ifF h1 (Ev.now _)
theorem leq_ev (x y : Lab) (hx : x.after.length ≤ 9223372036854775807) (hy : y.after.length ≤ 9223372036854775807) : Ev (fun k => label_Leq.f k x.u x.after x.ap x.den y.u y.after y.ap y.den) (Lab.leq x y) := by
  unfold label_Leq.f
  refine Ev.bind (valid_ev x hx) ?_
  cases h1 : Lab.valid x with
  | false =>
    rw [show Lab.leq x y = false by simp [Lab.leq, h1]]
    exact Ev_ifF (by decide) (Ev.now _)
  | true =>
    refine Ev_ifT rfl (Ev.bind (valid_ev y hy) ?_)
    cases h2 : Lab.valid y with
    | false =>
      rw [show Lab.leq x y = false by simp [Lab.leq, h2]]
      exact Ev_ifF (by decide) (Ev.now _)
    | true =>
      refine Ev_ifT rfl ?_
      have ax := (Lab.valid_iff.1 h1).2.2.2.1
      have ay := (Lab.valid_iff.1 h2).2.2.2.1
      have e : Lab.leq x y = (decide (x.u ≤ y.u) && (Lab.sub x.after y.after && (decide (x.ap ≤ y.ap) && (Lab.andNot x.den y.den == 0)))) := by
        unfold Lab.leq; rw [h1, h2]; simp [Bool.and_assoc]
      rw [e]
      unfold label_subset_int.f
      rw [Lab.subGo_eq _ _ ax ay]
      by_cases c1 : x.u ≤ y.u
      · rw [decide_eq_true c1, Bool.true_and]
        refine Ev_ifT c1 ?_
        simp only [Option.bind_some]
        refine Ev_and ?_
        by_cases c2 : x.ap ≤ y.ap
        · rw [decide_eq_true c2, Bool.true_and]
          exact Ev_ifT c2 (Ev.now _)
        · rw [decide_eq_false c2, Bool.false_and]
          exact Ev_ifF c2 (Ev.now _)
      · rw [decide_eq_false c1, Bool.false_and]
        exact Ev_ifF c1 (Ev.now _)

theorem index_loop (l : List Int) (a : Int) (hn : l.length ≤ 9223372036854775807) : ∀ (d : Nat) (i : Int), 0 ≤ i → i ≤ l.length → (l.length : Int) - i = d →
    ∃ r : Int, Ev (fun k => slices_Index_int_int.l0 k l a (l.length : Int) i) r ∧ decide (r ≥ 0) = decide (a ∈ l.drop i.toNat) := by
  intro d
  induction d with
  | zero =>
    intro i h0 h1 hd
    refine ⟨-1, Ev.step (fun k => by rw [slices_Index_int_int.l0]) (Ev_ifF (by omega) (Ev.now _)), ?_⟩
    rw [List.drop_eq_nil_of_le (by omega)]
    simp
  | succ d ih =>
    intro i h0 h1 hd
    have hlt : i < (l.length : Int) := by omega
    rw [rd_cons l i h0 hlt]
    by_cases c : a = rd l i
    · refine ⟨i, Ev.step (fun k => by rw [slices_Index_int_int.l0]) (Ev_ifT hlt (Ev_ifT h0 (Ev_ifT hlt (Ev_ifT c (Ev.now _))))), ?_⟩
      rw [decide_eq_true h0, decide_eq_true (by rw [c]; simp)]
    · obtain ⟨r, h, e⟩ := ih (i + 1) (by omega) (by omega) (by omega)
      rw [show (i + 1).toNat = i.toNat + 1 by omega] at e
      refine ⟨r, Ev.step (fun k => by rw [slices_Index_int_int.l0]) (Ev_ifT hlt (Ev_ifT h0 (Ev_ifT hlt (Ev_ifF c ?_)))), ?_⟩
      · rw [wrapS h0 hlt hn]; exact h
      · rw [e]; exact dec_eq (by simp [c])
theorem contains_ev (l : List Int) (a : Int) (hn : l.length ≤ 9223372036854775807) : Ev (fun k => slices_Contains_int_int.f k l a) (decide (a ∈ l)) := by
  unfold slices_Contains_int_int.f slices_Index_int_int.f
  obtain ⟨r, h, e⟩ := index_loop l a hn l.length 0 (by omega) (by omega) (by omega)
  refine Ev.bind h ?_
  rw [e]
  exact Ev.now _
theorem allows_loop (x : Lab) (now : Int) (out : List Int) (n : Int) (hx : x.after.length ≤ 9223372036854775807) (ho : out.length ≤ 9223372036854775807) : ∀ (d : Nat) (i : Int), 0 ≤ i → i ≤ x.after.length → (x.after.length : Int) - i = d →
    Ev (fun k => label_Allows.l0 k now out n x.after (x.after.length : Int) i x.u x.after x.ap x.den) (Lab.sub (x.after.drop i.toNat) out && decide (now ≥ x.u) && decide (n ≥ x.ap)) := by
  intro d
  induction d with
  | zero =>
    intro i h0 h1 hd
    refine Ev.step (fun k => by rw [label_Allows.l0]) (Ev_ifF (by omega) ?_)
    rw [List.drop_eq_nil_of_le (by omega), show Lab.sub [] out = true by simp [Lab.sub], Bool.true_and]
    by_cases c : now ≥ x.u
    · rw [decide_eq_true c, Bool.true_and]; exact Ev_ifT c (Ev.now _)
    · rw [decide_eq_false c, Bool.false_and]; exact Ev_ifF c (Ev.now _)
  | succ d ih =>
    intro i h0 h1 hd
    have hlt : i < (x.after.length : Int) := by omega
    refine Ev.step (fun k => by rw [label_Allows.l0]) (Ev_ifT hlt (Ev_ifT h0 (Ev_ifT hlt (Ev.bind (contains_ev out _ ho) ?_))))
    rw [rd_cons x.after i h0 hlt]
    by_cases c : rd x.after i ∈ out
    · rw [decide_eq_true c]
      refine Ev_ifT rfl ?_
      have IH := ih (i + 1) (by omega) (by omega) (by omega)
      rw [wrapS h0 hlt hx]
      rw [show (i + 1).toNat = i.toNat + 1 by omega] at IH
      rw [show Lab.sub (rd x.after i :: x.after.drop (i.toNat + 1)) out = Lab.sub (x.after.drop (i.toNat + 1)) out from dec_eq (by
        constructor
        · intro h m hm; exact h m (List.mem_cons_of_mem _ hm)
        · intro h m hm
          rcases List.mem_cons.1 hm with rfl | hm
          · exact c
          · exact h m hm)]
      exact IH
    · rw [decide_eq_false c, show Lab.sub (rd x.after i :: x.after.drop (i.toNat + 1)) out = false from decide_eq_false (fun h => c (h _ (by simp)))]
      exact Ev_ifF (by decide) (Ev.now _)
theorem allows_ev (x : Lab) (c now : Int) (out : List Int) (n : Int) (hx : x.after.length ≤ 9223372036854775807) (ho : out.length ≤ 9223372036854775807) :
    Ev (fun k => label_Allows.f k x.u x.after x.ap x.den c now out n) (Lab.allows x c now out n) := by
  unfold label_Allows.f
  have jt : Ev (fun k => label_Allows.j0 k now out n true x.u x.after x.ap x.den) false :=
    Ev.step (fun k => by rw [label_Allows.j0]) (Ev_ifT rfl (Ev.now _))
  refine Ev.bind (valid_ev x hx) ?_
  cases h1 : Lab.valid x with
  | false =>
    rw [show Lab.allows x c now out n = false by simp [Lab.allows, h1]]
    exact Ev_ifF (by decide) jt
  | true =>
    refine Ev_ifT rfl (Ev.bind (within_one 0 3 c) ?_)
    by_cases hc : 0 ≤ c ∧ c ≤ 3
    · rw [decide_eq_true hc]
      refine Ev_ifT rfl (Ev_ifT hc.1 ?_)
      refine Ev.step (fun k => by rw [label_Allows.j0]) ?_
      have e : Lab.allows x c now out n = (!Lab.bit x.den c && (Lab.sub x.after out && decide (now ≥ x.u) && decide (n ≥ x.ap))) := by
        unfold Lab.allows; rw [h1, decide_eq_true hc]; simp [Bool.and_assoc]
      rw [e]
      show Ev (fun k => if Lab.bit x.den c = true then _ else _) _
      cases hb : Lab.bit x.den c with
      | true => exact Ev_ifT rfl (Ev.now _)
      | false =>
        refine Ev_ifF (by decide) ?_
        rw [Bool.not_false, Bool.true_and]
        exact allows_loop x now out n hx ho x.after.length 0 (by omega) (by omega) (by omega)
    · rw [decide_eq_false hc, show Lab.allows x c now out n = false by simp [Lab.allows, hc]]
      exact Ev_ifF (by decide) jt
end Go.Proofs.Ytngckofkbkhomaa
