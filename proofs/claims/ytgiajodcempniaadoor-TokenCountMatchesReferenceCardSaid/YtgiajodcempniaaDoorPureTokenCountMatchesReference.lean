/- The plain statement of TokenCountMatchesReference, proved. -/
import Derived.Test.YtgiajodcempniaaDoorPTokenCountMatchesReferencex1
namespace Go.Proofs.YtgiajodcempniaaDoor.Pure
open Go.RowKit Go.Proofs.YtgiajodcempniaaDoor.PTokenCountMatchesReference Go.Proofs.YtgiajodcempniaaDoorW.PrintWords Go.Proofs.YtgiajodcempniaaDoorW.PrintLast
open Go.Proofs.YtgiajodcempniaaDoor
theorem Ev_ifT {α : Type} {c : Prop} [Decidable c] {f g : Nat → Option α} {r : α} (hc : c) (h : Ev f r) : Ev (fun k => if c then f k else g k) r :=
  Ev.congr (fun _ => if_pos hc) h
theorem Ev_ifF {α : Type} {c : Prop} [Decidable c] {f g : Nat → Option α} {r : α} (hc : ¬ c) (h : Ev g r) : Ev (fun k => if c then f k else g k) r :=
  Ev.congr (fun _ => if_neg hc) h
theorem wrapS {i : Int} {n : Nat} (h0 : 0 ≤ i) (h : i < (n : Int)) (hn : n ≤ 140737488355328) : wrap64 (i + 1) = i + 1 := by unfold wrap64; omega
theorem rd_drop (l : List ByteArray) (i : Int) (h0 : 0 ≤ i) (h : i < l.length) : l.drop i.toNat = rdOf ByteArray.empty l i :: l.drop (i.toNat + 1) := by
  rw [List.drop_eq_getElem_cons (by omega)]
  congr 1
  simp [rdOf, List.getD_eq_getElem?_getD, List.getElem?_eq_getElem (show i.toNat < l.length by omega)]
theorem same_loop (a b : List ByteArray) (hab : a.length = b.length) (hn : a.length ≤ 140737488355328) : ∀ (d k : Nat) (i : Int), 0 ≤ i → i ≤ a.length → (a.length : Int) - i = d → d < k → copydeskref08_SameStrings.l0 k a b i = some (decide (a.drop i.toNat = b.drop i.toNat)) := by
  intro d
  induction d with
  | zero =>
    intro k i h0 h1 hd hk
    obtain ⟨k, rfl⟩ : ∃ m, k = m + 1 := ⟨k - 1, by omega⟩
    simp only [copydeskref08_SameStrings.l0]
    rw [if_neg (by omega), List.drop_eq_nil_of_le (by omega), List.drop_eq_nil_of_le (by omega)]
    rfl
  | succ d ih =>
    intro k i h0 h1 hd hk
    obtain ⟨k, rfl⟩ : ∃ m, k = m + 1 := ⟨k - 1, by omega⟩
    have hlt : i < (a.length : Int) := by omega
    simp only [copydeskref08_SameStrings.l0]
    rw [if_pos hlt, if_pos h0, if_pos (by omega)]
    by_cases e : (rdOf ByteArray.empty a i).toList = (rdOf ByteArray.empty b i).toList
    · rw [if_pos e, wrapS h0 hlt hn, ih k (i + 1) (by omega) (by omega) (by omega) (by omega)]
      rw [rd_drop a i h0 hlt, rd_drop b i h0 (by omega), ba_ext e, show (i + 1).toNat = i.toNat + 1 by omega]
      simp
    · rw [if_neg e, rd_drop a i h0 hlt, rd_drop b i h0 (by omega)]
      congr 1
      symm
      rw [decide_eq_false_iff_not]
      intro h
      injection h with h _
      exact e (by rw [h])
theorem same_ev (a b : List ByteArray) (hn : a.length ≤ 140737488355328) : Ev (fun k => copydeskref08_SameStrings.f k a b) (decide (a = b)) := by
  refine Ev.of (copydeskref08_SameStrings.mono a b) (k := a.length + 1) ?_
  unfold copydeskref08_SameStrings.f
  by_cases h : a.length = b.length
  · rw [if_pos (by omega), same_loop a b h hn a.length _ 0 (by omega) (by omega) (by omega) (by omega)]
    simp
  · rw [if_neg (by omega)]
    congr 1
    symm
    rw [decide_eq_false_iff_not]
    intro e
    exact h (by rw [e])
theorem words_f (s : ByteArray) (h : s.size ≤ 1099511627776) : token_Words.f s = some (wordsBA s) := by unfold token_Words.f; rw [if_pos h]
theorem normal_f (s : ByteArray) (h : s.size ≤ 1099511627776) : token_Normal.f s = some (ba (Tok.normal s.data.toList)) := by unfold token_Normal.f; rw [if_pos h]
theorem count_f (l : List ByteArray) (t : ByteArray) (h : l.length ≤ 8796093022208) (h' : t.size ≤ 140737488351232) : token_Count.f l t = some (countOf l t : Int) := by unfold token_Count.f; rw [if_pos ⟨h, h'⟩]
theorem wordsBA_len (s : ByteArray) : (wordsBA s).length ≤ s.size + 1 := by
  unfold wordsBA
  rw [List.length_map]
  have := words_len s.data.toList
  rw [sz] at this
  exact this
theorem sane_ev : Ev (fun k => copydesklaw16_sane.f k) true := by
  unfold copydesklaw16_sane.f
  rw [words_f _ (by decide)]
  have hw : wordsBA ⟨#[84, 104, 101, 32, 50, 110, 100, 44, 32, 116, 104, 101, 32, 84, 72, 73, 82, 68, 46]⟩ = [⟨#[116, 104, 101]⟩, ⟨#[50, 110, 100]⟩, ⟨#[116, 104, 101]⟩, ⟨#[116, 104, 105, 114, 100]⟩] := by rfl
  simp only [Option.bind_some]
  rw [hw]
  refine Ev.bind (same_ev _ _ (by decide)) ?_
  simp only [decide_true, if_true]
  rw [count_f _ _ (by decide) (by decide), normal_f _ (by decide)]
  have hc : countOf [⟨#[116, 104, 101]⟩, ⟨#[50, 110, 100]⟩, ⟨#[116, 104, 101]⟩, ⟨#[116, 104, 105, 114, 100]⟩] ⟨#[116, 104, 101]⟩ = 2 := by
    unfold countOf neS
    simp only [ByteArray.toList_eq]
    rfl
  have hn : ba (Tok.normal (⟨#[32, 32, 65, 45, 98, 32]⟩ : ByteArray).data.toList) = ⟨#[97, 32, 98]⟩ := by rfl
  simp only [Option.bind_some]
  rw [hc, hn, ByteArray.toList_eq]
  exact Ev.now _
theorem short_size (a : ByteArray) : (a.extract 0 (mn (a.size : Int) 600).toNat).size ≤ 600 := by
  rw [ByteArray.size_extract]
  unfold mn
  split <;> omega
theorem ba_data (l : List UInt8) : (ba l).data.toList = l := rfl
theorem ba_inj {a b : List UInt8} (h : ba a = ba b) : a = b := by
  have := congrArg (fun x : ByteArray => x.data.toList) h
  exact this
theorem wordsBA_eq (a b : ByteArray) : wordsBA a = wordsBA b ↔ Tok.words a.data.toList = Tok.words b.data.toList := by
  unfold wordsBA
  constructor
  · intro h
    exact (List.map_inj_right (fun _ _ h => ba_inj h)).1 h
  · intro h; rw [h]
theorem normal_size (s : ByteArray) (h : s.size ≤ 600) : (ba (Tok.normal s.data.toList)).size ≤ 1099511627776 := by
  have h1 := join_size (Tok.words s.data.toList)
  have h2 := wgo_size s.data.toList []
  rw [sz] at h2
  unfold Tok.words at h1
  simp at h2
  show (Tok.join (Tok.wgo s.data.toList [])).toArray.size ≤ _
  rw [List.size_toArray]
  omega

theorem countOf_eq (l : List ByteArray) (t : ByteArray) : countOf l t = l.countP (fun x => decide (x.toList = t.toList)) := by
  unfold countOf
  rw [List.countP_eq_length_filter]
  congr 1
  congr 1
  funext x
  unfold neS
  rw [Bool.not_not, Bool.eq_iff_iff, decide_eq_true_iff, beq_iff_eq]
theorem ref_loop (l : List ByteArray) (t : ByteArray) (hn : l.length ≤ 50) : ∀ (d k : Nat) (i : Int), 0 ≤ i → i ≤ l.length → (l.length : Int) - i = d → d < k → copydeskref16_Count.l0 k l t (((l.take i.toNat).countP (fun x => decide (x.toList = t.toList)) : Nat) : Int) i = some (((l.countP (fun x => decide (x.toList = t.toList)) : Nat) : Int)) := by
  intro d
  induction d with
  | zero =>
    intro k i h0 h1 hd hk
    obtain ⟨k, rfl⟩ : ∃ m, k = m + 1 := ⟨k - 1, by omega⟩
    simp only [copydeskref16_Count.l0]
    rw [if_neg (by omega), List.take_of_length_le (by omega)]
  | succ d ih =>
    intro k i h0 h1 hd hk
    obtain ⟨k, rfl⟩ : ∃ m, k = m + 1 := ⟨k - 1, by omega⟩
    have hlt : i < (l.length : Int) := by omega
    simp only [copydeskref16_Count.l0]
    have hg : l[i.toNat]? = some (rdOf ByteArray.empty l i) := by
      simp [rdOf, List.getD_eq_getElem?_getD, List.getElem?_eq_getElem (show i.toNat < l.length by omega)]
    have htk : l.take (i.toNat + 1) = l.take i.toNat ++ [rdOf ByteArray.empty l i] := by
      rw [List.take_add_one, hg]; rfl
    have IH := ih k (i + 1) (by omega) (by omega) (by omega) (by omega)
    rw [show (i + 1).toNat = i.toNat + 1 by omega, htk, List.countP_append] at IH
    have hb : (l.take i.toNat).countP (fun x => decide (x.toList = t.toList)) ≤ 50 := by
      have := List.countP_le_length (p := fun x : ByteArray => decide (x.toList = t.toList)) (l := l.take i.toNat)
      rw [List.length_take] at this
      omega
    rw [if_pos hlt, if_pos h0, wrapS h0 hlt (by omega)]
    by_cases e : (rdOf ByteArray.empty l i).toList = t.toList
    · rw [if_pos e, ← IH]
      congr 1
      rw [List.countP_cons_of_pos (by simpa using e), List.countP_nil]
      unfold wrap64
      omega
    · rw [if_neg e, ← IH]
      congr 1
      rw [List.countP_cons_of_neg (by simpa using e), List.countP_nil, Nat.add_zero]
theorem ref_ev (l : List ByteArray) (t : ByteArray) (hn : l.length ≤ 50) : Ev (fun k => copydeskref16_Count.f k l t) (countOf l t : Int) := by
  refine Ev.of (fun k => copydeskref16_Count.mono l t k) (k := l.length + 1) ?_
  unfold copydeskref16_Count.f
  have := ref_loop l t hn l.length (l.length + 1) 0 (by omega) (by omega) (by omega) (by omega)
  rw [countOf_eq]
  exact this
theorem TokenCountMatchesReference (l : List ByteArray) (t : ByteArray) (ht : t.size ≤ 140737488351232) : ∃ k, copydesklaw16_TokenCountMatchesReference.f k l t = some true := by
  refine Ev.rounds ?_
  unfold copydesklaw16_TokenCountMatchesReference.f
  refine Ev.bind sane_ev ?_
  have both : ∀ m : List ByteArray, m.length ≤ 50 → Ev (fun n => if true = true then ((token_Count.f m t).bind fun t115 => ((copydeskref16_Count.f n m t).bind fun t116 => (some (t115 == t116)))) else (some false)) true := by
    intro m hm
    refine Ev_ifT rfl ?_
    rw [count_f m t (by omega) ht]
    simp only [Option.bind_some]
    refine Ev.bind (ref_ev m t hm) ?_
    rw [beq_self_eq_true]
    exact Ev.now _
  by_cases h : (l.length : Int) > 50
  · exact Ev_ifT h (Ev_ifT (by omega) (both _ (by rw [List.length_take]; omega)))
  · exact Ev_ifF h (both l (by omega))

end Go.Proofs.YtgiajodcempniaaDoor.Pure
