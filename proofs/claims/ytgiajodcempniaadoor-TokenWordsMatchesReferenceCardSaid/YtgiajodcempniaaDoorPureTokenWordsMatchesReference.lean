/- The plain statement of TokenWordsMatchesReference, proved. -/
import Derived.Test.YtgiajodcempniaaDoorPTokenWordsMatchesReferencex2
namespace Go.Proofs.YtgiajodcempniaaDoor.Pure
open Go.RowKit Go.Proofs.YtgiajodcempniaaDoor.PTokenWordsMatchesReference Go.Proofs.YtgiajodcempniaaDoorW.PrintWords Go.Proofs.YtgiajodcempniaaDoorW.PrintLast
open Go.Proofs.YtgiajodcempniaaDoor
theorem Ev_ifT {α : Type} {c : Prop} [Decidable c] {f g : Nat → Option α} {r : α} (hc : c) (h : Ev f r) : Ev (fun k => if c then f k else g k) r :=
  Ev.congr (fun _ => if_pos hc) h
theorem Ev_ifF {α : Type} {c : Prop} [Decidable c] {f g : Nat → Option α} {r : α} (hc : ¬ c) (h : Ev g r) : Ev (fun k => if c then f k else g k) r :=
  Ev.congr (fun _ => if_neg hc) h
theorem wrapS {i : Int} {n : Nat} (h0 : 0 ≤ i) (h : i < (n : Int)) (hn : n ≤ 140737488355328) : wrap64 (i + 1) = i + 1 := by unfold wrap64; omega
theorem rd_drop (l : List ByteArray) (i : Int) (h0 : 0 ≤ i) (h : i < l.length) : l.drop i.toNat = rdOf ByteArray.empty l i :: l.drop (i.toNat + 1) := by
  rw [List.drop_eq_getElem_cons (by omega)]
  congr 1
  simp [rdOf, List.getD_eq_getElem?_getD, List.getElem?_eq_getElem (show i.toNat < l.length by omega)]
theorem same_loop (a b : List ByteArray) (hab : a.length = b.length) (hn : a.length ≤ 140737488355328) : ∀ (d k : Nat) (i : Int), 0 ≤ i → i ≤ a.length → (a.length : Int) - i = d → d < k → copydeskref08_SameStrings.l0 k a b i = some (decide (a.drop i.toNat = b.drop i.toNat)) := by
  intro d
  induction d with
  | zero =>
    intro k i h0 h1 hd hk
    obtain ⟨k, rfl⟩ : ∃ m, k = m + 1 := ⟨k - 1, by omega⟩
    simp only [copydeskref08_SameStrings.l0]
    rw [if_neg (by omega), List.drop_eq_nil_of_le (by omega), List.drop_eq_nil_of_le (by omega)]
    rfl
  | succ d ih =>
    intro k i h0 h1 hd hk
    obtain ⟨k, rfl⟩ : ∃ m, k = m + 1 := ⟨k - 1, by omega⟩
    have hlt : i < (a.length : Int) := by omega
    simp only [copydeskref08_SameStrings.l0]
    rw [if_pos hlt, if_pos h0, if_pos (by omega)]
    by_cases e : (rdOf ByteArray.empty a i).toList = (rdOf ByteArray.empty b i).toList
    · rw [if_pos e, wrapS h0 hlt hn, ih k (i + 1) (by omega) (by omega) (by omega) (by omega)]
      rw [rd_drop a i h0 hlt, rd_drop b i h0 (by omega), ba_ext e, show (i + 1).toNat = i.toNat + 1 by omega]
      simp
    · rw [if_neg e, rd_drop a i h0 hlt, rd_drop b i h0 (by omega)]
      congr 1
      symm
      rw [decide_eq_false_iff_not]
      intro h
      injection h with h _
      exact e (by rw [h])
theorem same_ev (a b : List ByteArray) (hn : a.length ≤ 140737488355328) : Ev (fun k => copydeskref08_SameStrings.f k a b) (decide (a = b)) := by
  refine Ev.of (copydeskref08_SameStrings.mono a b) (k := a.length + 1) ?_
  unfold copydeskref08_SameStrings.f
  by_cases h : a.length = b.length
  · rw [if_pos (by omega), same_loop a b h hn a.length _ 0 (by omega) (by omega) (by omega) (by omega)]
    simp
  · rw [if_neg (by omega)]
    congr 1
    symm
    rw [decide_eq_false_iff_not]
    intro e
    exact h (by rw [e])
theorem words_f (s : ByteArray) (h : s.size ≤ 1099511627776) : token_Words.f s = some (wordsBA s) := by unfold token_Words.f; rw [if_pos h]
theorem normal_f (s : ByteArray) (h : s.size ≤ 1099511627776) : token_Normal.f s = some (ba (Tok.normal s.data.toList)) := by unfold token_Normal.f; rw [if_pos h]
theorem count_f (l : List ByteArray) (t : ByteArray) (h : l.length ≤ 8796093022208) (h' : t.size ≤ 140737488351232) : token_Count.f l t = some (countOf l t : Int) := by unfold token_Count.f; rw [if_pos ⟨h, h'⟩]
theorem wordsBA_len (s : ByteArray) : (wordsBA s).length ≤ s.size + 1 := by
  unfold wordsBA
  rw [List.length_map]
  have := words_len s.data.toList
  rw [sz] at this
  exact this
theorem sane_ev : Ev (fun k => copydesklaw16_sane.f k) true := by
  unfold copydesklaw16_sane.f
  rw [words_f _ (by decide)]
  have hw : wordsBA ⟨#[84, 104, 101, 32, 50, 110, 100, 44, 32, 116, 104, 101, 32, 84, 72, 73, 82, 68, 46]⟩ = [⟨#[116, 104, 101]⟩, ⟨#[50, 110, 100]⟩, ⟨#[116, 104, 101]⟩, ⟨#[116, 104, 105, 114, 100]⟩] := by rfl
  simp only [Option.bind_some]
  rw [hw]
  refine Ev.bind (same_ev _ _ (by decide)) ?_
  simp only [decide_true, if_true]
  rw [count_f _ _ (by decide) (by decide), normal_f _ (by decide)]
  have hc : countOf [⟨#[116, 104, 101]⟩, ⟨#[50, 110, 100]⟩, ⟨#[116, 104, 101]⟩, ⟨#[116, 104, 105, 114, 100]⟩] ⟨#[116, 104, 101]⟩ = 2 := by
    unfold countOf neS
    simp only [ByteArray.toList_eq]
    rfl
  have hn : ba (Tok.normal (⟨#[32, 32, 65, 45, 98, 32]⟩ : ByteArray).data.toList) = ⟨#[97, 32, 98]⟩ := by rfl
  simp only [Option.bind_some]
  rw [hc, hn, ByteArray.toList_eq]
  exact Ev.now _
theorem short_f (a : ByteArray) : copydesklaw16_short.f a = some (a.extract 0 (mn (a.size : Int) 600).toNat) := by
  unfold copydesklaw16_short.f
  rw [if_pos (by unfold mn; split <;> omega), if_pos (by unfold mn; split <;> omega)]
theorem short_size (a : ByteArray) : (a.extract 0 (mn (a.size : Int) 600).toNat).size ≤ 600 := by
  rw [ByteArray.size_extract]
  unfold mn
  split <;> omega
theorem ba_data (l : List UInt8) : (ba l).data.toList = l := rfl
theorem ba_inj {a b : List UInt8} (h : ba a = ba b) : a = b := by
  have := congrArg (fun x : ByteArray => x.data.toList) h
  exact this
theorem wordsBA_eq (a b : ByteArray) : wordsBA a = wordsBA b ↔ Tok.words a.data.toList = Tok.words b.data.toList := by
  unfold wordsBA
  constructor
  · intro h
    exact (List.map_inj_right (fun _ _ h => ba_inj h)).1 h
  · intro h; rw [h]
theorem normal_size (s : ByteArray) (h : s.size ≤ 600) : (ba (Tok.normal s.data.toList)).size ≤ 1099511627776 := by
  have h1 := join_size (Tok.words s.data.toList)
  have h2 := wgo_size s.data.toList []
  rw [sz] at h2
  unfold Tok.words at h1
  simp at h2
  show (Tok.join (Tok.wgo s.data.toList [])).toArray.size ≤ _
  rw [List.size_toArray]
  omega

theorem data_app (a b : ByteArray) : (a ++ b).data.toList = a.data.toList ++ b.data.toList := by
  rw [ByteArray.data_append, Array.toList_append]
theorem ba_self (a : ByteArray) : ba a.data.toList = a := rfl
theorem low_nat (c : UInt8) : ((Tok.low c).toNat : Int) = if 65 ≤ (c.toNat : Int) ∧ (c.toNat : Int) ≤ 90 then (c.toNat : Int) + 32 else (c.toNat : Int) := by
  unfold Tok.low
  by_cases h : (65 ≤ c && c ≤ 90) = true
  · rw [if_pos h]
    simp only [Bool.and_eq_true, decide_eq_true_eq, UInt8.le_iff_toNat_le] at h
    simp at h
    rw [if_pos (by omega), UInt8.toNat_add]
    simp
    omega
  · rw [if_neg h]
    simp only [Bool.and_eq_true, decide_eq_true_eq, UInt8.le_iff_toNat_le] at h
    simp at h
    rw [if_neg (by omega)]
theorem isPI_low (z : Int) : isPI z = (if z ≥ 65 ∧ z ≤ 90 then true else if z ≥ 97 ∧ z ≤ 122 then true else decide (48 ≤ z ∧ z ≤ 57)) := by
  unfold isPI
  rw [Bool.eq_iff_iff]
  by_cases h1 : z ≥ 65 ∧ z ≤ 90
  · rw [if_pos h1]; simp only [Bool.or_eq_true, Bool.and_eq_true, decide_eq_true_eq]; simp; omega
  · rw [if_neg h1]
    by_cases h2 : z ≥ 97 ∧ z ≤ 122
    · rw [if_pos h2]; simp only [Bool.or_eq_true, Bool.and_eq_true, decide_eq_true_eq]; simp; omega
    · rw [if_neg h2]; simp only [Bool.or_eq_true, Bool.and_eq_true, decide_eq_true_eq]; omega
theorem j4_of (s : ByteArray) (acc : List ByteArray) (cur : ByteArray) (i : Int) (c : UInt8) (r : List ByteArray)
    (h : Ev (fun k => copydeskref16_Words.j4 k s acc cur i ((Tok.low c).toNat : Int) (Tok.isP c)) r) : Ev (fun k => copydeskref16_Words.j1 k s acc cur i (c.toNat : Int)) r := by
  have e := low_nat c
  have hp := isPI_low (c.toNat : Int)
  rw [isPI_isP] at hp
  have h256 : (c.toNat : Int) < 256 := by have := c.toNat_lt; omega
  obtain ⟨z, hz⟩ : ∃ z : Int, (c.toNat : Int) = z := ⟨_, rfl⟩
  have z0 : 0 ≤ z := by omega
  rw [hz] at e hp h256 ⊢
  rw [e, hp] at h
  refine Ev.step (fun k => by rw [copydeskref16_Words.j1]) ?_
  by_cases h65 : z ≥ 65
  · refine Ev_ifT h65 ?_
    refine Ev.step (fun k => by rw [copydeskref16_Words.j2]) ?_
    by_cases h90 : z ≤ 90
    · rw [decide_eq_true h90]
      refine Ev_ifT rfl ?_
      refine Ev.step (fun k => by rw [copydeskref16_Words.j3]) ?_
      rw [if_pos (show z ≥ 65 ∧ z ≤ 90 from ⟨h65, h90⟩), if_pos (show 65 ≤ z ∧ z ≤ 90 from ⟨h65, h90⟩)] at h
      rw [show (z - 65) % 256 = z - 65 by omega, show (z - 65 + 97) % 256 = z + 32 by omega]
      exact Ev_ifT (by omega) (Ev_ifT (by omega) h)
    · rw [decide_eq_false h90]
      refine Ev_ifF (by decide) ?_
      refine Ev.step (fun k => by rw [copydeskref16_Words.j3]) ?_
      rw [if_neg (show ¬ (z ≥ 65 ∧ z ≤ 90) by omega), if_neg (show ¬ (65 ≤ z ∧ z ≤ 90) by omega)] at h
      by_cases h97 : z ≥ 97
      · refine Ev_ifT h97 ?_
        by_cases h122 : z ≤ 122
        · rw [if_pos ⟨h97, h122⟩] at h
          exact Ev_ifT h122 h
        · rw [if_neg (by omega), decide_eq_false (by omega)] at h
          refine Ev_ifF h122 (Ev_ifT (by omega) ?_)
          rw [decide_eq_false (by omega)]
          exact h
      · rw [if_neg (by omega), decide_eq_false (by omega)] at h
        refine Ev_ifF h97 (Ev_ifT (by omega) ?_)
        rw [decide_eq_false (by omega)]
        exact h
  · refine Ev_ifF h65 ?_
    refine Ev.step (fun k => by rw [copydeskref16_Words.j2]) ?_
    refine Ev_ifF (by decide) ?_
    refine Ev.step (fun k => by rw [copydeskref16_Words.j3]) ?_
    rw [if_neg (show ¬ (z ≥ 65 ∧ z ≤ 90) by omega), if_neg (show ¬ (65 ≤ z ∧ z ≤ 90) by omega), if_neg (by omega)] at h
    refine Ev_ifF (by omega) ?_
    by_cases h48 : z ≥ 48
    · refine Ev_ifT h48 ?_
      rw [show decide (48 ≤ z ∧ z ≤ 57) = decide (z ≤ 57) by rw [decide_eq_decide]; omega] at h
      exact h
    · rw [decide_eq_false (by omega)] at h
      exact Ev_ifF h48 h
theorem refWords_loop (s : ByteArray) (hs : s.size ≤ 600) : ∀ (d : Nat) (i : Int) (acc : List ByteArray) (cur : ByteArray), 0 ≤ i → i ≤ s.size → (s.size : Int) - i = d → (acc.length : Int) ≤ i → cur.size ≤ 30 →
    Ev (fun k => copydeskref16_Words.l0 k s acc cur i) (acc ++ (Tok.wgo (s.data.toList.drop i.toNat) cur.data.toList).map ba) := by
  intro d
  induction d with
  | zero =>
    intro i acc cur h0 h1 hd ha hc
    have hi : i = s.size := by omega
    have hnil : s.data.toList.drop i.toNat = [] := List.drop_eq_nil_of_le (by rw [sz]; omega)
    rw [hnil]
    refine Ev.step (fun k => by rw [copydeskref16_Words.l0]) ?_
    refine Ev_ifT h1 (Ev_ifF (by omega) ?_)
    have last : ∀ acc' cur', Ev (fun k => copydeskref16_Words.l0 k s acc' cur' (wrap64 (i + 1))) acc' := by
      intro acc' cur'
      refine Ev.step (fun k => by rw [copydeskref16_Words.l0]) ?_
      refine Ev_ifF (by unfold wrap64; omega) (Ev.now _)
    have := j4_of s acc cur i 0 (acc ++ (Tok.wgo [] cur.data.toList).map ba) (by
      refine Ev.step (fun k => by rw [copydeskref16_Words.j4]) ?_
      rw [show Tok.isP 0 = false by decide]
      refine Ev_ifF (by decide) ?_
      by_cases hc0 : cur.toList = ([] : List UInt8)
      · refine Ev_ifT hc0 ?_
        rw [ByteArray.toList_eq] at hc0
        rw [hc0, show Tok.wgo [] [] = [] from rfl, List.map_nil, List.append_nil]
        exact last _ _
      · refine Ev_ifF hc0 (Ev_ifT (by omega) ?_)
        rw [ByteArray.toList_eq] at hc0
        have e : Tok.wgo [] cur.data.toList = [cur.data.toList] := by unfold Tok.wgo; rw [if_neg hc0]
        rw [e]
        exact last _ _)
    exact this
  | succ d ih =>
    intro i acc cur h0 h1 hd ha hc
    have hlt : i < (s.size : Int) := by omega
    obtain ⟨c, hdr, hb⟩ := bt_drop s i h0 hlt
    rw [hdr]
    refine Ev.step (fun k => by rw [copydeskref16_Words.l0]) ?_
    refine Ev_ifT h1 (Ev_ifT hlt (Ev_ifT h0 ?_))
    rw [hb]
    refine j4_of s acc cur i c _ ?_
    refine Ev.step (fun k => by rw [copydeskref16_Words.j4]) ?_
    rw [wrapS h0 hlt (by omega)]
    have hi1 : i.toNat + 1 = (i + 1).toNat := by omega
    rw [hi1]
    unfold Tok.wgo
    cases hp : Tok.isP c with
    | true =>
      refine Ev_ifT rfl ?_
      rw [if_pos rfl, sz]
      by_cases h30 : (cur.size : Int) < 30
      · refine Ev_ifT h30 ?_
        simp only [Option.bind_some]
        refine Ev_ifT (by rw [strOfNums_size]; simp; omega) ?_
        rw [if_pos (by omega)]
        have e : cur.data.toList ++ [Tok.low c] = (cur ++ strOfNums [((Tok.low c).toNat : Int)]).data.toList := by
          rw [data_app, strOfNums_data]
          simp
        rw [e]
        exact ih (i + 1) acc _ (by omega) (by omega) (by omega) (by omega) (by rw [ByteArray.size_append, strOfNums_size]; simp; omega)
      · refine Ev_ifF h30 ?_
        rw [if_neg (by omega)]
        exact ih (i + 1) acc cur (by omega) (by omega) (by omega) (by omega) hc
    | false =>
      refine Ev_ifF (by decide) ?_
      rw [if_neg (by decide)]
      by_cases hc0 : cur.toList = ([] : List UInt8)
      · refine Ev_ifT hc0 ?_
        rw [ByteArray.toList_eq] at hc0
        rw [if_pos hc0]
        exact ih (i + 1) acc ⟨#[]⟩ (by omega) (by omega) (by omega) (by omega) (by decide)
      · refine Ev_ifF hc0 (Ev_ifT (by omega) ?_)
        rw [ByteArray.toList_eq] at hc0
        rw [if_neg hc0, List.map_cons, show acc ++ ba cur.data.toList :: (Tok.wgo (s.data.toList.drop (i + 1).toNat) []).map ba = (acc ++ [cur]) ++ (Tok.wgo (s.data.toList.drop (i + 1).toNat) []).map ba by rw [List.append_assoc]; rfl]
        exact ih (i + 1) (acc ++ [cur]) ⟨#[]⟩ (by omega) (by omega) (by omega) (by simp; omega) (by decide)
theorem refWords_ev (s : ByteArray) (hs : s.size ≤ 600) : Ev (fun k => copydeskref16_Words.f k s) (wordsBA s) := by
  unfold copydeskref16_Words.f
  exact refWords_loop s hs s.size 0 [] ⟨#[]⟩ (by omega) (by omega) (by omega) (by simp) (by decide)
theorem join_snoc : ∀ (l : List (List UInt8)) (x : List UInt8), l ≠ [] → Tok.join (l ++ [x]) = Tok.join l ++ 32 :: x
  | [], _, h => absurd rfl h
  | [y], x, _ => rfl
  | y :: z :: l, x, _ => by
    have := join_snoc (z :: l) x (by simp)
    rw [List.cons_append, Tok.join_cons y (by simp), this, Tok.join_cons y (by simp), List.append_assoc]
    rfl
theorem join_len : ∀ (l : List (List UInt8)), (∀ x ∈ l, x.length ≤ 30) → (Tok.join l).length ≤ 31 * l.length
  | [], _ => by simp [Tok.join]
  | [x], h => by have := h x (by simp); simp [Tok.join]; omega
  | x :: y :: l, h => by
    have h1 := h x (by simp)
    have := join_len (y :: l) (fun z hz => h z (by simp [hz]))
    rw [Tok.join_cons x (by simp)]
    simp only [List.length_append, List.length_cons] at this ⊢
    omega
theorem refNormal_loop (l : List (List UInt8)) (hn : l.length ≤ 601) (h30 : ∀ x ∈ l, x.length ≤ 30) : ∀ (d : Nat) (i : Int), 0 ≤ i → i ≤ l.length → (l.length : Int) - i = d →
    Ev (fun k => copydeskref16_Normal.l0 k (l.map ba) (ba (Tok.join (l.take i.toNat))) i) (ba (Tok.join l)) := by
  intro d
  induction d with
  | zero =>
    intro i h0 h1 hd
    refine Ev.step (fun k => by rw [copydeskref16_Normal.l0]) ?_
    refine Ev_ifF (by simp; omega) ?_
    rw [List.take_of_length_le (by omega)]
    exact Ev.now _
  | succ d ih =>
    intro i h0 h1 hd
    have hlt : i < ((l.map ba).length : Int) := by simp; omega
    refine Ev.step (fun k => by rw [copydeskref16_Normal.l0]) ?_
    refine Ev_ifT hlt ?_
    have hi : i.toNat < l.length := by omega
    have hg : rdOf ByteArray.empty (l.map ba) i = ba l[i.toNat] := by
      simp [rdOf, List.getD_eq_getElem?_getD, List.getElem?_eq_getElem hi]
    have htk : l.take (i + 1).toNat = l.take i.toNat ++ [l[i.toNat]] := by
      rw [show (i + 1).toNat = i.toNat + 1 by omega, List.take_add_one, List.getElem?_eq_getElem hi]; rfl
    have h1' := h30 _ (List.getElem_mem hi)
    have hj := join_len (l.take i.toNat) (fun x hx => h30 x (List.mem_of_mem_take hx))
    rw [List.length_take] at hj
    have IH := ih (i + 1) (by omega) (by omega) (by omega)
    rw [htk] at IH
    rw [hg]
    have sb : ∀ x : List UInt8, (ba x).size = x.length := fun x => by show x.toArray.size = _; rw [List.size_toArray]
    rw [wrapS h0 (by omega : i < (l.length : Int)) (by omega)]
    by_cases hz : i > 0
    · refine Ev_ifT hz (Ev_ifT (by rw [sb]; omega) (Ev_ifT h0 (Ev_ifT (by rw [ByteArray.size_append, sb, sb, show (⟨#[32]⟩ : ByteArray).size = 1 from rfl]; omega) ?_)))
      have hne : l.take i.toNat ≠ [] := by
        intro e
        have := congrArg List.length e
        rw [List.length_take, List.length_nil] at this
        omega
      rw [join_snoc _ _ hne] at IH
      have e : ba (Tok.join (l.take i.toNat)) ++ (⟨#[32]⟩ : ByteArray) ++ ba l[i.toNat] = ba (Tok.join (l.take i.toNat) ++ 32 :: l[i.toNat]) := by
        apply ByteArray.ext
        apply Array.ext'
        rw [data_app, data_app]
        simp [ba]
      rw [e]
      exact IH
    · refine Ev_ifF hz (Ev_ifT h0 (Ev_ifT (by rw [sb, sb]; omega) ?_))
      have hi0 : i = 0 := by omega
      subst hi0
      have e : ba (Tok.join (l.take (0 : Int).toNat)) ++ ba l[(0 : Int).toNat] = ba (Tok.join (l.take (0 : Int).toNat ++ [l[(0 : Int).toNat]])) := by
        apply ByteArray.ext
        apply Array.ext'
        rw [data_app]
        simp [ba, Tok.join]
      rw [e]
      exact IH
theorem refNormal_ev (s : ByteArray) (hs : s.size ≤ 600) : Ev (fun k => copydeskref16_Normal.f k s) (ba (Tok.normal s.data.toList)) := by
  unfold copydeskref16_Normal.f
  refine Ev.bind (refWords_ev s hs) ?_
  have hl := words_len s.data.toList
  rw [sz] at hl
  exact refNormal_loop (Tok.words s.data.toList) (by omega) (fun x hx => (Tok.words_isW _ x hx).2.1) (Tok.words s.data.toList).length 0 (by omega) (by omega) (by omega)
theorem TokenWordsMatchesReference : copydesklaw16_TokenWordsMatchesReference.Pure := by
  intro a0 _
  refine Ev.rounds ?_
  unfold copydesklaw16_TokenWordsMatchesReference.f
  refine Ev.bind sane_ev ?_
  rw [short_f]
  have hs0 := short_size a0
  obtain ⟨s, hs⟩ : ∃ s, a0.extract 0 (mn (a0.size : Int) 600).toNat = s := ⟨_, rfl⟩
  rw [hs] at hs0 ⊢
  simp only [Option.bind_some]
  rw [words_f s (by omega)]
  simp only [Option.bind_some]
  have hl := wordsBA_len s
  refine Ev.bind (refWords_ev s hs0) ?_
  refine Ev.bind (same_ev _ _ (by omega)) ?_
  refine Ev_ifT trivial (Ev_ifT (by simp) ?_)
  rw [normal_f s (by omega)]
  simp only [Option.bind_some]
  refine Ev.bind (refNormal_ev s hs0) ?_
  rw [beq_self_eq_true]
  exact Ev.now _

end Go.Proofs.YtgiajodcempniaaDoor.Pure
