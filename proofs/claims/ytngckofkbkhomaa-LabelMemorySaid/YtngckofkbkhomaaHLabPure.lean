/- Labels in plain Lean: valid, join, leq, allows, and their laws. -/
import Derived.Lib.SlicesCompact
import Derived.Test.YtngckofkbkhomaaHLabSubset
namespace Go.Proofs.Ytngckofkbkhomaa
set_option linter.unusedVariables false
structure Lab where
  u : Int
  after : List Int
  ap : Int
  den : Int
deriving DecidableEq
namespace Lab
open Go.RowKit Go.Proofs.YtngckofkbkhomaaW.PrintWords Go.Proofs.YtngckofkbkhomaaW.PrintMore
abbrev asc (l : List Int) : Prop := l.Pairwise (· < ·)
theorem asc_ext : ∀ {a b : List Int}, asc a → asc b → (∀ n, n ∈ a ↔ n ∈ b) → a = b
  | [], [], _, _, _ => rfl
  | [], y :: b, _, _, h => by have := (h y).2 (by simp); cases this
  | x :: a, [], _, _, h => by have := (h x).1 (by simp); cases this
  | x :: a, y :: b, ha, hb, h => by
    rw [asc, List.pairwise_cons] at ha hb
    have hx : x = y := by
      have h1 := (h x).1 (by simp)
      have h2 := (h y).2 (by simp)
      rcases List.mem_cons.1 h1 with h1 | h1
      · exact h1
      · rcases List.mem_cons.1 h2 with h2 | h2
        · exact h2.symm
        · have := hb.1 x h1; have := ha.1 y h2; omega
    subst hx
    congr 1
    refine asc_ext ha.2 hb.2 fun n => ⟨fun hn => ?_, fun hn => ?_⟩
    · rcases List.mem_cons.1 ((h n).1 (by simp [hn])) with rfl | h1
      · have := ha.1 n hn; omega
      · exact h1
    · rcases List.mem_cons.1 ((h n).2 (by simp [hn])) with rfl | h1
      · have := hb.1 n hn; omega
      · exact h1
/-- strictly ascending, the members of l -/
def merge (l : List Int) : List Int := Lib.compact (l.mergeSort fun x y => decide (x ≤ y))
theorem compact_up (d : Array Int) (hs : ∀ i j, i ≤ j → j < d.size → d[i]! ≤ d[j]!) : ∀ m, m ≤ d.size → asc (Lib.compactUpTo d m) ∧ (∀ x ∈ Lib.compactUpTo d m, ∃ j, j < m ∧ x = d[j]!) ∧ (∀ j, j < m → d[j]! ∈ Lib.compactUpTo d m)
  | 0, _ => ⟨List.Pairwise.nil, fun x hx => by simp [Lib.compactUpTo] at hx, fun j hj => by omega⟩
  | m + 1, hm => by
    obtain ⟨h1, h2, h3⟩ := compact_up d hs m (by omega)
    rw [Lib.compactUpTo_succ]
    by_cases hk : Lib.keeps d m = true
    · rw [if_pos hk]
      refine ⟨?_, ?_, ?_⟩
      · rw [asc, List.pairwise_append]
        refine ⟨h1, List.pairwise_singleton _ _, fun x hx y hy => ?_⟩
        obtain rfl := List.mem_singleton.1 hy
        obtain ⟨j, hj, rfl⟩ := h2 x hx
        have a1 := hs j (m - 1) (by omega) (by omega)
        have a2 := hs (m - 1) m (by omega) (by omega)
        have a3 : d[m]! ≠ d[m - 1]! := by
          intro e
          rw [Lib.keeps_neg (by omega) e] at hk
          cases hk
        omega
      · intro x hx
        rcases List.mem_append.1 hx with hx | hx
        · obtain ⟨j, hj, e⟩ := h2 x hx
          exact ⟨j, by omega, e⟩
        · exact ⟨m, by omega, List.mem_singleton.1 hx⟩
      · intro j hj
        rcases Nat.lt_or_ge j m with h | h
        · exact List.mem_append_left _ (h3 j h)
        · obtain rfl : j = m := by omega
          exact List.mem_append_right _ (List.mem_singleton.2 rfl)
    · rw [if_neg hk, List.append_nil]
      refine ⟨h1, fun x hx => ?_, fun j hj => ?_⟩
      · obtain ⟨j, hj, e⟩ := h2 x hx
        exact ⟨j, by omega, e⟩
      · rcases Nat.lt_or_ge j m with h | h
        · exact h3 j h
        · obtain rfl : j = m := by omega
          have hm0 : 0 < j := by
            rcases Nat.eq_zero_or_pos j with rfl | h
            · exact absurd (Lib.keeps_lt_one d 0 (by omega)) hk
            · exact h
          have e : d[j]! = d[j - 1]! := by
            by_cases e : d[j]! = d[j - 1]!
            · exact e
            · exact absurd (Lib.keeps_pos e) hk
          rw [e]
          exact h3 (j - 1) (by omega)
theorem getElem!_list (l : List Int) (i : Nat) (h : i < l.length) : l.toArray[i]! = l[i] := by simp [h]
theorem merge_spec (l : List Int) : asc (merge l) ∧ ∀ n, n ∈ merge l ↔ n ∈ l := by
  unfold merge Lib.compact
  generalize hm : (l.mergeSort fun x y => decide (x ≤ y)) = m
  have hmem : ∀ n, n ∈ m ↔ n ∈ l := fun n => by rw [← hm, List.mem_mergeSort]
  have hp : m.Pairwise (fun a b => decide (a ≤ b) = true) := by
    rw [← hm]
    exact List.pairwise_mergeSort (fun a b c h1 h2 => by simp at h1 h2 ⊢; omega) (fun a b => by simp; omega) l
  obtain ⟨h1, h2, h3⟩ := compact_up m.toArray (fun i j hij hj => by
    simp at hj
    rw [getElem!_list m i (by omega), getElem!_list m j hj]
    rcases Nat.lt_or_ge i j with h | h
    · have := List.pairwise_iff_getElem.1 hp i j (by omega) hj h
      simpa using this
    · obtain rfl : i = j := by omega
      exact Int.le_refl _) m.length (by simp)
  refine ⟨h1, fun n => ⟨fun hn => ?_, fun hn => ?_⟩⟩
  · obtain ⟨j, hj, rfl⟩ := h2 n hn
    rw [getElem!_list m j hj]
    exact (hmem _).1 (List.getElem_mem hj)
  · obtain ⟨j, hj, e⟩ := List.getElem_of_mem ((hmem n).2 hn)
    have := h3 j hj
    rw [getElem!_list m j hj, e] at this
    exact this
theorem merge_asc {l m : List Int} (h : asc m) (he : ∀ n, n ∈ l ↔ n ∈ m) : merge l = m :=
  asc_ext (merge_spec l).1 h fun n => ((merge_spec l).2 n).trans (he n)

def zero : Lab := ⟨0, [], 0, 0⟩
def Ok (x : Lab) : Prop := 0 ≤ x.u ∧ x.u ≤ 1000000000 ∧ (∀ n ∈ x.after, 1 ≤ n ∧ n ≤ 64) ∧ asc x.after ∧ 0 ≤ x.ap ∧ x.ap ≤ 5 ∧ 0 ≤ x.den ∧ x.den ≤ 15
instance (x : Lab) : Decidable (Ok x) := by unfold Ok; infer_instance
def valid (x : Lab) : Bool := decide (Ok x)
theorem valid_iff {x : Lab} : valid x = true ↔ Ok x := decide_eq_true_iff
def mx (a b : Int) : Int := if b < a then a else b
def orI (a b : Int) : Int := Go.bits .or .i64 a b
def andNot (a b : Int) : Int := Go.bits .andNot .i64 a b
def bit (d c : Int) : Bool := Go.bits .and .i64 (shr .i64 d c) 1 == 1
def join (x y : Lab) : Lab := if valid x && valid y then ⟨mx x.u y.u, merge (x.after ++ y.after), mx x.ap y.ap, orI x.den y.den⟩ else zero
def sub (a b : List Int) : Bool := decide (∀ n ∈ a, n ∈ b)
def leq (x y : Lab) : Bool := valid x && valid y && decide (x.u ≤ y.u) && sub x.after y.after && decide (x.ap ≤ y.ap) && (andNot x.den y.den == 0)
def allows (x : Lab) (c now : Int) (out : List Int) (n : Int) : Bool := valid x && decide (0 ≤ c ∧ c ≤ 3) && !bit x.den c && sub x.after out && decide (now ≥ x.u) && decide (n ≥ x.ap)

theorem bits16 : ∀ a b : Fin 16, 0 ≤ orI (a : Nat) (b : Nat) ∧ orI (a : Nat) (b : Nat) ≤ 15 ∧ orI (a : Nat) (b : Nat) = orI (b : Nat) (a : Nat) ∧ orI (a : Nat) (a : Nat) = (a : Nat) ∧ orI (a : Nat) 0 = (a : Nat) ∧ (andNot (a : Nat) (b : Nat) = 0 ↔ orI (a : Nat) (b : Nat) = (b : Nat)) ∧ (∀ c : Fin 4, bit (orI (a : Nat) (b : Nat)) (c : Nat) = (bit (a : Nat) (c : Nat) || bit (b : Nat) (c : Nat))) := by decide +kernel
theorem assoc16 : ∀ a b c : Fin 16, orI (orI (a : Nat) (b : Nat)) (c : Nat) = orI (a : Nat) (orI (b : Nat) (c : Nat)) := by decide +kernel
theorem fin16 {a : Int} (h0 : 0 ≤ a) (h1 : a ≤ 15) : ∃ x : Fin 16, a = (x : Nat) := ⟨⟨a.toNat, by omega⟩, by simp; omega⟩
theorem or_range {a b : Int} (ha0 : 0 ≤ a) (ha1 : a ≤ 15) (hb0 : 0 ≤ b) (hb1 : b ≤ 15) : 0 ≤ orI a b ∧ orI a b ≤ 15 := by
  obtain ⟨x, rfl⟩ := fin16 ha0 ha1; obtain ⟨y, rfl⟩ := fin16 hb0 hb1
  exact ⟨(bits16 x y).1, (bits16 x y).2.1⟩
theorem or_comm' {a b : Int} (ha0 : 0 ≤ a) (ha1 : a ≤ 15) (hb0 : 0 ≤ b) (hb1 : b ≤ 15) : orI a b = orI b a := by
  obtain ⟨x, rfl⟩ := fin16 ha0 ha1; obtain ⟨y, rfl⟩ := fin16 hb0 hb1
  exact (bits16 x y).2.2.1
theorem or_self' {a : Int} (ha0 : 0 ≤ a) (ha1 : a ≤ 15) : orI a a = a := by
  obtain ⟨x, rfl⟩ := fin16 ha0 ha1
  exact (bits16 x x).2.2.2.1
theorem or_zero {a : Int} (ha0 : 0 ≤ a) (ha1 : a ≤ 15) : orI a 0 = a := by
  obtain ⟨x, rfl⟩ := fin16 ha0 ha1
  exact (bits16 x x).2.2.2.2.1
theorem andNot_iff {a b : Int} (ha0 : 0 ≤ a) (ha1 : a ≤ 15) (hb0 : 0 ≤ b) (hb1 : b ≤ 15) : andNot a b = 0 ↔ orI a b = b := by
  obtain ⟨x, rfl⟩ := fin16 ha0 ha1; obtain ⟨y, rfl⟩ := fin16 hb0 hb1
  exact (bits16 x y).2.2.2.2.2.1
theorem bit_or {a b c : Int} (ha0 : 0 ≤ a) (ha1 : a ≤ 15) (hb0 : 0 ≤ b) (hb1 : b ≤ 15) (hc0 : 0 ≤ c) (hc1 : c ≤ 3) : bit (orI a b) c = (bit a c || bit b c) := by
  obtain ⟨x, rfl⟩ := fin16 ha0 ha1; obtain ⟨y, rfl⟩ := fin16 hb0 hb1
  obtain ⟨z, rfl⟩ : ∃ z : Fin 4, c = (z : Nat) := ⟨⟨c.toNat, by omega⟩, by simp; omega⟩
  exact (bits16 x y).2.2.2.2.2.2 z
theorem or_assoc' {a b c : Int} (ha0 : 0 ≤ a) (ha1 : a ≤ 15) (hb0 : 0 ≤ b) (hb1 : b ≤ 15) (hc0 : 0 ≤ c) (hc1 : c ≤ 15) : orI (orI a b) c = orI a (orI b c) := by
  obtain ⟨x, rfl⟩ := fin16 ha0 ha1; obtain ⟨y, rfl⟩ := fin16 hb0 hb1; obtain ⟨z, rfl⟩ := fin16 hc0 hc1
  exact assoc16 x y z

theorem ok_zero : Ok zero := by decide
theorem join_of {x y : Lab} (hx : Ok x) (hy : Ok y) : join x y = ⟨mx x.u y.u, merge (x.after ++ y.after), mx x.ap y.ap, orI x.den y.den⟩ := by
  unfold join; rw [valid_iff.2 hx, valid_iff.2 hy]; rfl
theorem ok_join {x y : Lab} (hx : Ok x) (hy : Ok y) : Ok (join x y) := by
  rw [join_of hx hy]
  obtain ⟨x1, x2, x3, x4, x5, x6, x7, x8⟩ := hx
  obtain ⟨y1, y2, y3, y4, y5, y6, y7, y8⟩ := hy
  have hb := or_range x7 x8 y7 y8
  refine ⟨?_, ?_, ?_, (merge_spec _).1, ?_, ?_, hb.1, hb.2⟩
  · simp only [mx]; split <;> omega
  · simp only [mx]; split <;> omega
  · intro n hn
    rcases List.mem_append.1 (((merge_spec _).2 n).1 hn) with h | h
    · exact x3 n h
    · exact y3 n h
  · simp only [mx]; split <;> omega
  · simp only [mx]; split <;> omega
theorem mx_comm (a b : Int) : mx a b = mx b a := by unfold mx; split <;> split <;> omega
theorem mx_assoc (a b c : Int) : mx (mx a b) c = mx a (mx b c) := by
  unfold mx
  repeat' split
  all_goals omega
theorem mx_self (a : Int) : mx a a = a := by unfold mx; split <;> rfl
theorem join_comm {x y : Lab} (hx : Ok x) (hy : Ok y) : join x y = join y x := by
  rw [join_of hx hy, join_of hy hx, mx_comm x.u, mx_comm x.ap, or_comm' hx.2.2.2.2.2.2.1 hx.2.2.2.2.2.2.2 hy.2.2.2.2.2.2.1 hy.2.2.2.2.2.2.2]
  congr 1
  refine merge_asc (merge_spec _).1 fun n => ?_
  rw [(merge_spec _).2, List.mem_append, List.mem_append]
  exact Or.comm
theorem join_assoc {x y z : Lab} (hx : Ok x) (hy : Ok y) (hz : Ok z) : join (join x y) z = join x (join y z) := by
  rw [join_of (ok_join hx hy) hz, join_of hx (ok_join hy hz), join_of hx hy, join_of hy hz]
  simp only
  rw [mx_assoc, mx_assoc, or_assoc' hx.2.2.2.2.2.2.1 hx.2.2.2.2.2.2.2 hy.2.2.2.2.2.2.1 hy.2.2.2.2.2.2.2 hz.2.2.2.2.2.2.1 hz.2.2.2.2.2.2.2]
  congr 1
  refine merge_asc (merge_spec _).1 fun n => ?_
  rw [(merge_spec _).2, List.mem_append, List.mem_append, (merge_spec _).2, (merge_spec _).2, List.mem_append, List.mem_append]
  exact or_assoc
theorem join_self {x : Lab} (hx : Ok x) : join x x = x := by
  rw [join_of hx hx, mx_self, mx_self, or_self' hx.2.2.2.2.2.2.1 hx.2.2.2.2.2.2.2, merge_asc hx.2.2.2.1 (by simp)]
theorem mx_zero {a : Int} (h : 0 ≤ a) : mx a 0 = a := by
  unfold mx
  split <;> omega
theorem join_zero {x : Lab} (hx : Ok x) : join x zero = x := by
  rw [join_of hx ok_zero]
  have h1 : mx x.u zero.u = x.u := mx_zero hx.1
  have h2 : mx x.ap zero.ap = x.ap := mx_zero hx.2.2.2.2.1
  rw [h1, h2, show orI x.den zero.den = x.den from or_zero hx.2.2.2.2.2.2.1 hx.2.2.2.2.2.2.2, merge_asc hx.2.2.2.1 (by simp [zero])]
theorem zero_join {x : Lab} (hx : Ok x) : join zero x = x := by rw [join_comm ok_zero hx, join_zero hx]
theorem sub_iff {a b : List Int} : sub a b = true ↔ ∀ n ∈ a, n ∈ b := decide_eq_true_iff
theorem leq_iff {x y : Lab} : leq x y = true ↔ Ok x ∧ Ok y ∧ join x y = y := by
  unfold leq
  simp only [Bool.and_eq_true, decide_eq_true_eq, valid_iff, beq_iff_eq, sub_iff]
  constructor
  · rintro ⟨⟨⟨⟨⟨hx, hy⟩, h1⟩, h2⟩, h3⟩, h4⟩
    refine ⟨hx, hy, ?_⟩
    rw [join_of hx hy]
    have e1 : mx x.u y.u = y.u := by simp only [mx]; split <;> omega
    have e2 : mx x.ap y.ap = y.ap := by simp only [mx]; split <;> omega
    rw [e1, e2, (andNot_iff hx.2.2.2.2.2.2.1 hx.2.2.2.2.2.2.2 hy.2.2.2.2.2.2.1 hy.2.2.2.2.2.2.2).1 h4, merge_asc hy.2.2.2.1 fun n => ?_]
    rw [List.mem_append]
    exact ⟨fun h => h.elim (h2 n) id, Or.inr⟩
  · rintro ⟨hx, hy, h⟩
    rw [join_of hx hy] at h
    have h1 := congrArg Lab.u h
    have h2 := congrArg Lab.after h
    have h3 := congrArg Lab.ap h
    have h4 := congrArg Lab.den h
    simp only at h1 h2 h3 h4
    refine ⟨⟨⟨⟨⟨hx, hy⟩, ?_⟩, ?_⟩, ?_⟩, (andNot_iff hx.2.2.2.2.2.2.1 hx.2.2.2.2.2.2.2 hy.2.2.2.2.2.2.1 hy.2.2.2.2.2.2.2).2 h4⟩
    · simp only [mx] at h1; split at h1 <;> omega
    · intro n hn
      rw [← h2, (merge_spec _).2]
      exact List.mem_append_left _ hn
    · simp only [mx] at h3; split at h3 <;> omega
theorem leq_eq {x y : Lab} (hx : Ok x) (hy : Ok y) : leq x y = decide (join x y = y) := by
  rw [Bool.eq_iff_iff, leq_iff, decide_eq_true_iff]
  exact ⟨fun h => h.2.2, fun h => ⟨hx, hy, h⟩⟩
theorem leq_refl {x : Lab} (hx : Ok x) : leq x x = true := leq_iff.2 ⟨hx, hx, join_self hx⟩
theorem leq_anti {x y : Lab} (h1 : leq x y = true) (h2 : leq y x = true) : x = y := by
  obtain ⟨hx, hy, e1⟩ := leq_iff.1 h1
  obtain ⟨_, _, e2⟩ := leq_iff.1 h2
  exact e2.symm.trans ((join_comm hy hx).trans e1)
theorem leq_trans {x y z : Lab} (h1 : leq x y = true) (h2 : leq y z = true) : leq x z = true := by
  obtain ⟨hx, hy, e1⟩ := leq_iff.1 h1
  obtain ⟨_, hz, e2⟩ := leq_iff.1 h2
  refine leq_iff.2 ⟨hx, hz, ?_⟩
  rw [← e2, ← join_assoc hx hy hz, e1]
theorem leq_join_l {x y : Lab} (hx : Ok x) (hy : Ok y) : leq x (join x y) = true := leq_iff.2 ⟨hx, ok_join hx hy, by rw [← join_assoc hx hx hy, join_self hx]⟩
theorem leq_join_r {x y : Lab} (hx : Ok x) (hy : Ok y) : leq y (join x y) = true := by rw [join_comm hx hy]; exact leq_join_l hy hx
theorem lub {x y z : Lab} (hx : Ok x) (hy : Ok y) (hz : Ok z) : leq (join x y) z = (leq x z && leq y z) := by
  rw [Bool.eq_iff_iff, Bool.and_eq_true]
  constructor
  · intro h
    exact ⟨leq_trans (leq_join_l hx hy) h, leq_trans (leq_join_r hx hy) h⟩
  · rintro ⟨h1, h2⟩
    refine leq_iff.2 ⟨ok_join hx hy, hz, ?_⟩
    rw [join_assoc hx hy hz, (leq_iff.1 h2).2.2, (leq_iff.1 h1).2.2]
theorem join_allows {x y : Lab} (hx : Ok x) (hy : Ok y) (c now : Int) (out : List Int) (n : Int) : allows (join x y) c now out n = (allows x c now out n && allows y c now out n) := by
  unfold allows
  rw [valid_iff.2 hx, valid_iff.2 hy, valid_iff.2 (ok_join hx hy), join_of hx hy]
  simp only [Bool.true_and]
  by_cases hc : 0 ≤ c ∧ c ≤ 3
  · rw [bit_or hx.2.2.2.2.2.2.1 hx.2.2.2.2.2.2.2 hy.2.2.2.2.2.2.1 hy.2.2.2.2.2.2.2 hc.1 hc.2]
    rw [Bool.eq_iff_iff]
    simp only [Bool.and_eq_true, decide_eq_true_eq, sub_iff, Bool.not_eq_true', Bool.or_eq_false_iff, (merge_spec _).2, List.mem_append]
    have e1 : (now ≥ mx x.u y.u) ↔ (now ≥ x.u ∧ now ≥ y.u) := by simp only [mx]; split <;> omega
    have e2 : (n ≥ mx x.ap y.ap) ↔ (n ≥ x.ap ∧ n ≥ y.ap) := by simp only [mx]; split <;> omega
    rw [e1, e2]
    constructor
    · rintro ⟨⟨⟨⟨h0, h1, h2⟩, h3⟩, h4, h5⟩, h6, h7⟩
      exact ⟨⟨⟨⟨⟨h0, h1⟩, fun m hm => h3 m (.inl hm)⟩, h4⟩, h6⟩, ⟨⟨⟨h0, h2⟩, fun m hm => h3 m (.inr hm)⟩, h5⟩, h7⟩
    · rintro ⟨⟨⟨⟨⟨h0, h1⟩, h3⟩, h4⟩, h6⟩, ⟨⟨⟨_, h2⟩, h3'⟩, h5⟩, h7⟩
      exact ⟨⟨⟨⟨h0, h1, h2⟩, fun m hm => hm.elim (h3 m) (h3' m)⟩, h4, h5⟩, h6, h7⟩
  · rw [decide_eq_false hc]; simp
theorem allows_mono {x y : Lab} (h : leq x y = true) {c now now' : Int} {out out' : List Int} {n n' : Int} (hn : now ≤ now') (ho : ∀ m ∈ out, m ∈ out') (hp : n ≤ n') (ha : allows y c now out n = true) : allows x c now' out' n' = true := by
  obtain ⟨hx, hy, e⟩ := leq_iff.1 h
  rw [← e, join_allows hx hy, Bool.and_eq_true] at ha
  have ha := ha.1
  unfold allows at ha ⊢
  simp only [Bool.and_eq_true, decide_eq_true_eq, sub_iff] at ha ⊢
  obtain ⟨⟨⟨⟨⟨h0, h1⟩, h2⟩, h3⟩, h4⟩, h5⟩ := ha
  exact ⟨⟨⟨⟨⟨h0, h1⟩, h2⟩, fun m hm => ho m (h3 m hm)⟩, by omega⟩, by omega⟩
/-- subGo on ascending lists -/
theorem subGo_eq : ∀ (a b : List Int), asc a → asc b → subGo a b = sub a b
  | [], b, _, _ => by simp [subGo, sub]
  | x :: a, [], _, _ => by
    simp only [subGo]
    symm
    rw [sub, decide_eq_false_iff_not]
    intro h
    exact absurd (h x (by simp)) (by simp)
  | x :: a, y :: b, ha, hb => by
    unfold subGo
    have hac := List.pairwise_cons.1 ha
    have hbc := List.pairwise_cons.1 hb
    by_cases e : y = x
    · subst e
      rw [if_pos rfl, subGo_eq a b hac.2 hbc.2, Bool.eq_iff_iff, sub_iff, sub_iff]
      constructor
      · intro h n hn
        rcases List.mem_cons.1 hn with rfl | hn
        · simp
        · exact List.mem_cons_of_mem _ (h n hn)
      · intro h n hn
        rcases List.mem_cons.1 (h n (List.mem_cons_of_mem _ hn)) with rfl | h
        · have := hac.1 n hn; omega
        · exact h
    · rw [if_neg e, subGo_eq (x :: a) b ha hbc.2, Bool.eq_iff_iff, sub_iff, sub_iff]
      constructor
      · intro h n hn; exact List.mem_cons_of_mem _ (h n hn)
      · intro h n hn
        rcases List.mem_cons.1 (h n hn) with rfl | h'
        · rcases List.mem_cons.1 (h x (by simp)) with h2 | h2
          · exact absurd h2.symm e
          · have h3 := hbc.1 x h2
            rcases List.mem_cons.1 hn with rfl | hn
            · omega
            · have := hac.1 n hn; omega
        · exact h'
termination_by a b => a.length + b.length
end Lab
end Go.Proofs.Ytngckofkbkhomaa
