/- The plain statement of TokenWordsShape, proved. -/
import Derived.Test.YtgiajodcempniaaDoorPTokenWordsShapex1
namespace Go.Proofs.YtgiajodcempniaaDoor.Pure
open Go.RowKit Go.Proofs.YtgiajodcempniaaDoor.PTokenWordsShape Go.Proofs.YtgiajodcempniaaDoorW.PrintWords Go.Proofs.YtgiajodcempniaaDoorW.PrintLast
open Go.Proofs.YtgiajodcempniaaDoor
theorem Ev_ifT {α : Type} {c : Prop} [Decidable c] {f g : Nat → Option α} {r : α} (hc : c) (h : Ev f r) : Ev (fun k => if c then f k else g k) r :=
  Ev.congr (fun _ => if_pos hc) h
theorem Ev_ifF {α : Type} {c : Prop} [Decidable c] {f g : Nat → Option α} {r : α} (hc : ¬ c) (h : Ev g r) : Ev (fun k => if c then f k else g k) r :=
  Ev.congr (fun _ => if_neg hc) h
theorem wrapS {i : Int} {n : Nat} (h0 : 0 ≤ i) (h : i < (n : Int)) (hn : n ≤ 140737488355328) : wrap64 (i + 1) = i + 1 := by unfold wrap64; omega
theorem rd_drop (l : List ByteArray) (i : Int) (h0 : 0 ≤ i) (h : i < l.length) : l.drop i.toNat = rdOf ByteArray.empty l i :: l.drop (i.toNat + 1) := by
  rw [List.drop_eq_getElem_cons (by omega)]
  congr 1
  simp [rdOf, List.getD_eq_getElem?_getD, List.getElem?_eq_getElem (show i.toNat < l.length by omega)]
theorem same_loop (a b : List ByteArray) (hab : a.length = b.length) (hn : a.length ≤ 140737488355328) : ∀ (d k : Nat) (i : Int), 0 ≤ i → i ≤ a.length → (a.length : Int) - i = d → d < k → copydeskref08_SameStrings.l0 k a b i = some (decide (a.drop i.toNat = b.drop i.toNat)) := by
  intro d
  induction d with
  | zero =>
    intro k i h0 h1 hd hk
    obtain ⟨k, rfl⟩ : ∃ m, k = m + 1 := ⟨k - 1, by omega⟩
    simp only [copydeskref08_SameStrings.l0]
    rw [if_neg (by omega), List.drop_eq_nil_of_le (by omega), List.drop_eq_nil_of_le (by omega)]
    rfl
  | succ d ih =>
    intro k i h0 h1 hd hk
    obtain ⟨k, rfl⟩ : ∃ m, k = m + 1 := ⟨k - 1, by omega⟩
    have hlt : i < (a.length : Int) := by omega
    simp only [copydeskref08_SameStrings.l0]
    rw [if_pos hlt, if_pos h0, if_pos (by omega)]
    by_cases e : (rdOf ByteArray.empty a i).toList = (rdOf ByteArray.empty b i).toList
    · rw [if_pos e, wrapS h0 hlt hn, ih k (i + 1) (by omega) (by omega) (by omega) (by omega)]
      rw [rd_drop a i h0 hlt, rd_drop b i h0 (by omega), ba_ext e, show (i + 1).toNat = i.toNat + 1 by omega]
      simp
    · rw [if_neg e, rd_drop a i h0 hlt, rd_drop b i h0 (by omega)]
      congr 1
      symm
      rw [decide_eq_false_iff_not]
      intro h
      injection h with h _
      exact e (by rw [h])
theorem same_ev (a b : List ByteArray) (hn : a.length ≤ 140737488355328) : Ev (fun k => copydeskref08_SameStrings.f k a b) (decide (a = b)) := by
  refine Ev.of (copydeskref08_SameStrings.mono a b) (k := a.length + 1) ?_
  unfold copydeskref08_SameStrings.f
  by_cases h : a.length = b.length
  · rw [if_pos (by omega), same_loop a b h hn a.length _ 0 (by omega) (by omega) (by omega) (by omega)]
    simp
  · rw [if_neg (by omega)]
    congr 1
    symm
    rw [decide_eq_false_iff_not]
    intro e
    exact h (by rw [e])
theorem words_f (s : ByteArray) (h : s.size ≤ 1099511627776) : token_Words.f s = some (wordsBA s) := by unfold token_Words.f; rw [if_pos h]
theorem normal_f (s : ByteArray) (h : s.size ≤ 1099511627776) : token_Normal.f s = some (ba (Tok.normal s.data.toList)) := by unfold token_Normal.f; rw [if_pos h]
theorem count_f (l : List ByteArray) (t : ByteArray) (h : l.length ≤ 8796093022208) (h' : t.size ≤ 140737488351232) : token_Count.f l t = some (countOf l t : Int) := by unfold token_Count.f; rw [if_pos ⟨h, h'⟩]
theorem wordsBA_len (s : ByteArray) : (wordsBA s).length ≤ s.size + 1 := by
  unfold wordsBA
  rw [List.length_map]
  have := words_len s.data.toList
  rw [sz] at this
  exact this
theorem sane_ev : Ev (fun k => copydesklaw16_sane.f k) true := by
  unfold copydesklaw16_sane.f
  rw [words_f _ (by decide)]
  have hw : wordsBA ⟨#[84, 104, 101, 32, 50, 110, 100, 44, 32, 116, 104, 101, 32, 84, 72, 73, 82, 68, 46]⟩ = [⟨#[116, 104, 101]⟩, ⟨#[50, 110, 100]⟩, ⟨#[116, 104, 101]⟩, ⟨#[116, 104, 105, 114, 100]⟩] := by rfl
  simp only [Option.bind_some]
  rw [hw]
  refine Ev.bind (same_ev _ _ (by decide)) ?_
  simp only [decide_true, if_true]
  rw [count_f _ _ (by decide) (by decide), normal_f _ (by decide)]
  have hc : countOf [⟨#[116, 104, 101]⟩, ⟨#[50, 110, 100]⟩, ⟨#[116, 104, 101]⟩, ⟨#[116, 104, 105, 114, 100]⟩] ⟨#[116, 104, 101]⟩ = 2 := by
    unfold countOf neS
    simp only [ByteArray.toList_eq]
    rfl
  have hn : ba (Tok.normal (⟨#[32, 32, 65, 45, 98, 32]⟩ : ByteArray).data.toList) = ⟨#[97, 32, 98]⟩ := by rfl
  simp only [Option.bind_some]
  rw [hc, hn, ByteArray.toList_eq]
  exact Ev.now _
theorem short_f (a : ByteArray) : copydesklaw16_short.f a = some (a.extract 0 (mn (a.size : Int) 600).toNat) := by
  unfold copydesklaw16_short.f
  rw [if_pos (by unfold mn; split <;> omega), if_pos (by unfold mn; split <;> omega)]
theorem short_size (a : ByteArray) : (a.extract 0 (mn (a.size : Int) 600).toNat).size ≤ 600 := by
  rw [ByteArray.size_extract]
  unfold mn
  split <;> omega
theorem ba_data (l : List UInt8) : (ba l).data.toList = l := rfl
theorem ba_inj {a b : List UInt8} (h : ba a = ba b) : a = b := by
  have := congrArg (fun x : ByteArray => x.data.toList) h
  exact this
theorem wordsBA_eq (a b : ByteArray) : wordsBA a = wordsBA b ↔ Tok.words a.data.toList = Tok.words b.data.toList := by
  unfold wordsBA
  constructor
  · intro h
    exact (List.map_inj_right (fun _ _ h => ba_inj h)).1 h
  · intro h; rw [h]
theorem normal_size (s : ByteArray) (h : s.size ≤ 600) : (ba (Tok.normal s.data.toList)).size ≤ 1099511627776 := by
  have h1 := join_size (Tok.words s.data.toList)
  have h2 := wgo_size s.data.toList []
  rw [sz] at h2
  unfold Tok.words at h1
  simp at h2
  show (Tok.join (Tok.wgo s.data.toList [])).toArray.size ≤ _
  rw [List.size_toArray]
  omega

theorem part_f (a : Int) : copydesklaw16_part.f a = some (isPI a) := by
  unfold copydesklaw16_part.f isPI
  repeat' split
  all_goals (congr 1; rw [Bool.eq_iff_iff]; simp only [Bool.or_eq_true, Bool.and_eq_true, decide_eq_true_eq]; first | omega | (simp; omega))
theorem bt_mem (s : ByteArray) (i : Int) (h0 : 0 ≤ i) (h : i < s.size) : ∃ c ∈ s.data.toList, bt s i = (c.toNat : Int) := by
  obtain ⟨c, hc, hb⟩ := bt_drop s i h0 h
  exact ⟨c, List.mem_of_mem_drop (by rw [hc]; exact List.mem_cons_self ..), hb⟩
theorem low_not {c : UInt8} (h : Tok.low c = c) : ¬ (65 ≤ (c.toNat : Int) ∧ (c.toNat : Int) ≤ 90) := by
  intro ⟨h1, h2⟩
  unfold Tok.low at h
  rw [if_pos (by
    simp only [Bool.and_eq_true, decide_eq_true_eq, UInt8.le_iff_toNat_le]
    simp
    omega)] at h
  have := congrArg UInt8.toNat h
  rw [UInt8.toNat_add] at this
  simp at this
  omega
theorem shape_ev (ws : List ByteArray) (hn : ws.length ≤ 601) (hw : ∀ x ∈ ws, Tok.isW x.data.toList) : ∀ (d : Nat) (i : Int), 0 ≤ i → i ≤ ws.length → (ws.length : Int) - i = d → Ev (fun k => copydesklaw16_TokenWordsShape.l0 k true ws i) true := by
  intro d
  induction d with
  | zero =>
    intro i h0 h1 hd
    refine Ev.step (fun k => by rw [copydesklaw16_TokenWordsShape.l0]) ?_
    exact Ev_ifF (by omega) (Ev.now _)
  | succ d ih =>
    intro i h0 h1 hd
    have hlt : i < (ws.length : Int) := by omega
    refine Ev.step (fun k => by rw [copydesklaw16_TokenWordsShape.l0]) ?_
    have hg : ws[i.toNat]? = some (rdOf ByteArray.empty ws i) := by
      simp [rdOf, List.getD_eq_getElem?_getD, List.getElem?_eq_getElem (show i.toNat < ws.length by omega)]
    have hW := hw _ (List.mem_of_getElem? hg)
    obtain ⟨x, hx⟩ : ∃ x, rdOf ByteArray.empty ws i = x := ⟨_, rfl⟩
    have hW' := hW
    rw [hx] at hW'
    obtain ⟨w1, w2, w3⟩ := hW'
    rw [sz] at w1 w2
    rw [hx]
    refine Ev_ifT hlt (Ev_ifT h0 (Ev_ifF (by omega) ?_))
    rw [decide_eq_false (by omega : ¬ (x.size : Int) > 30)]
    refine Ev.step (fun k => by rw [copydesklaw16_TokenWordsShape.j1]) ?_
    refine Ev_ifF (by decide) ?_
    have IH := ih (i + 1) (by omega) (by omega) (by omega)
    have inner : ∀ (e : Nat) (j : Int), 0 ≤ j → j ≤ x.size → (x.size : Int) - j = e → Ev (fun k => copydesklaw16_TokenWordsShape.l1 k true ws i j) true := by
      intro e
      induction e with
      | zero =>
        intro j j0 j1 je
        refine Ev.step (fun k => by rw [copydesklaw16_TokenWordsShape.l1]) ?_
        rw [hx]
        refine Ev_ifT h0 (Ev_ifT hlt (Ev_ifF (by omega) ?_))
        rw [wrapS h0 hlt (by omega)]
        exact IH
      | succ e ie =>
        intro j j0 j1 je
        refine Ev.step (fun k => by rw [copydesklaw16_TokenWordsShape.l1]) ?_
        have hj : j < (x.size : Int) := by omega
        obtain ⟨c, hc, hb⟩ := bt_mem x j j0 hj
        obtain ⟨hc1, hc2⟩ := w3 c hc
        have hl := low_not hc2
        rw [hx]
        refine Ev_ifT h0 (Ev_ifT hlt (Ev_ifT hj (Ev_ifT j0 ?_)))
        rw [part_f, hb, isPI_isP, hc1, wrapS j0 hj (by omega)]
        simp only [Option.bind_some, if_true]
        have II := ie (j + 1) (by omega) (by omega) (by omega)
        by_cases h65 : (c.toNat : Int) ≥ 65
        · exact Ev_ifT h65 (Ev_ifF (by omega) II)
        · exact Ev_ifF h65 II
    exact inner x.size 0 (by omega) (by omega) (by omega)
theorem TokenWordsShape : copydesklaw16_TokenWordsShape.Pure := by
  intro a0 _
  refine Ev.rounds ?_
  unfold copydesklaw16_TokenWordsShape.f
  refine Ev.bind sane_ev ?_
  rw [short_f]
  have hs0 := short_size a0
  obtain ⟨s, hs⟩ : ∃ s, a0.extract 0 (mn (a0.size : Int) 600).toNat = s := ⟨_, rfl⟩
  rw [hs] at hs0 ⊢
  simp only [Option.bind_some]
  rw [words_f s (by omega)]
  simp only [Option.bind_some]
  have hl := wordsBA_len s
  refine shape_ev _ (by omega) ?_ (wordsBA s).length 0 (by omega) (by omega) (by omega)
  intro x hx
  unfold wordsBA at hx
  obtain ⟨y, hy, rfl⟩ := List.mem_map.1 hx
  exact Tok.words_isW _ y hy

end Go.Proofs.YtgiajodcempniaaDoor.Pure
