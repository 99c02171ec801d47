/- The plain statement of TokenCounts, proved. -/
import Derived.Test.YtgiajodcempniaaDoorPTokenCountsx1
namespace Go.Proofs.YtgiajodcempniaaDoor.Pure
open Go.RowKit Go.Proofs.YtgiajodcempniaaDoor.PTokenCounts Go.Proofs.YtgiajodcempniaaDoorW.PrintWords Go.Proofs.YtgiajodcempniaaDoorW.PrintLast
open Go.Proofs.YtgiajodcempniaaDoor
theorem Ev_ifT {α : Type} {c : Prop} [Decidable c] {f g : Nat → Option α} {r : α} (hc : c) (h : Ev f r) : Ev (fun k => if c then f k else g k) r :=
  Ev.congr (fun _ => if_pos hc) h
theorem Ev_ifF {α : Type} {c : Prop} [Decidable c] {f g : Nat → Option α} {r : α} (hc : ¬ c) (h : Ev g r) : Ev (fun k => if c then f k else g k) r :=
  Ev.congr (fun _ => if_neg hc) h
theorem wrapS {i : Int} {n : Nat} (h0 : 0 ≤ i) (h : i < (n : Int)) (hn : n ≤ 140737488355328) : wrap64 (i + 1) = i + 1 := by unfold wrap64; omega
theorem rd_drop (l : List ByteArray) (i : Int) (h0 : 0 ≤ i) (h : i < l.length) : l.drop i.toNat = rdOf ByteArray.empty l i :: l.drop (i.toNat + 1) := by
  rw [List.drop_eq_getElem_cons (by omega)]
  congr 1
  simp [rdOf, List.getD_eq_getElem?_getD, List.getElem?_eq_getElem (show i.toNat < l.length by omega)]
theorem same_loop (a b : List ByteArray) (hab : a.length = b.length) (hn : a.length ≤ 140737488355328) : ∀ (d k : Nat) (i : Int), 0 ≤ i → i ≤ a.length → (a.length : Int) - i = d → d < k → copydeskref08_SameStrings.l0 k a b i = some (decide (a.drop i.toNat = b.drop i.toNat)) := by
  intro d
  induction d with
  | zero =>
    intro k i h0 h1 hd hk
    obtain ⟨k, rfl⟩ : ∃ m, k = m + 1 := ⟨k - 1, by omega⟩
    simp only [copydeskref08_SameStrings.l0]
    rw [if_neg (by omega), List.drop_eq_nil_of_le (by omega), List.drop_eq_nil_of_le (by omega)]
    rfl
  | succ d ih =>
    intro k i h0 h1 hd hk
    obtain ⟨k, rfl⟩ : ∃ m, k = m + 1 := ⟨k - 1, by omega⟩
    have hlt : i < (a.length : Int) := by omega
    simp only [copydeskref08_SameStrings.l0]
    rw [if_pos hlt, if_pos h0, if_pos (by omega)]
    by_cases e : (rdOf ByteArray.empty a i).toList = (rdOf ByteArray.empty b i).toList
    · rw [if_pos e, wrapS h0 hlt hn, ih k (i + 1) (by omega) (by omega) (by omega) (by omega)]
      rw [rd_drop a i h0 hlt, rd_drop b i h0 (by omega), ba_ext e, show (i + 1).toNat = i.toNat + 1 by omega]
      simp
    · rw [if_neg e, rd_drop a i h0 hlt, rd_drop b i h0 (by omega)]
      congr 1
      symm
      rw [decide_eq_false_iff_not]
      intro h
      injection h with h _
      exact e (by rw [h])
theorem same_ev (a b : List ByteArray) (hn : a.length ≤ 140737488355328) : Ev (fun k => copydeskref08_SameStrings.f k a b) (decide (a = b)) := by
  refine Ev.of (copydeskref08_SameStrings.mono a b) (k := a.length + 1) ?_
  unfold copydeskref08_SameStrings.f
  by_cases h : a.length = b.length
  · rw [if_pos (by omega), same_loop a b h hn a.length _ 0 (by omega) (by omega) (by omega) (by omega)]
    simp
  · rw [if_neg (by omega)]
    congr 1
    symm
    rw [decide_eq_false_iff_not]
    intro e
    exact h (by rw [e])
theorem words_f (s : ByteArray) (h : s.size ≤ 1099511627776) : token_Words.f s = some (wordsBA s) := by unfold token_Words.f; rw [if_pos h]
theorem normal_f (s : ByteArray) (h : s.size ≤ 1099511627776) : token_Normal.f s = some (ba (Tok.normal s.data.toList)) := by unfold token_Normal.f; rw [if_pos h]
theorem count_f (l : List ByteArray) (t : ByteArray) (h : l.length ≤ 8796093022208) (h' : t.size ≤ 140737488351232) : token_Count.f l t = some (countOf l t : Int) := by unfold token_Count.f; rw [if_pos ⟨h, h'⟩]
theorem wordsBA_len (s : ByteArray) : (wordsBA s).length ≤ s.size + 1 := by
  unfold wordsBA
  rw [List.length_map]
  have := words_len s.data.toList
  rw [sz] at this
  exact this
theorem sane_ev : Ev (fun k => copydesklaw16_sane.f k) true := by
  unfold copydesklaw16_sane.f
  rw [words_f _ (by decide)]
  have hw : wordsBA ⟨#[84, 104, 101, 32, 50, 110, 100, 44, 32, 116, 104, 101, 32, 84, 72, 73, 82, 68, 46]⟩ = [⟨#[116, 104, 101]⟩, ⟨#[50, 110, 100]⟩, ⟨#[116, 104, 101]⟩, ⟨#[116, 104, 105, 114, 100]⟩] := by rfl
  simp only [Option.bind_some]
  rw [hw]
  refine Ev.bind (same_ev _ _ (by decide)) ?_
  simp only [decide_true, if_true]
  rw [count_f _ _ (by decide) (by decide), normal_f _ (by decide)]
  have hc : countOf [⟨#[116, 104, 101]⟩, ⟨#[50, 110, 100]⟩, ⟨#[116, 104, 101]⟩, ⟨#[116, 104, 105, 114, 100]⟩] ⟨#[116, 104, 101]⟩ = 2 := by
    unfold countOf neS
    simp only [ByteArray.toList_eq]
    rfl
  have hn : ba (Tok.normal (⟨#[32, 32, 65, 45, 98, 32]⟩ : ByteArray).data.toList) = ⟨#[97, 32, 98]⟩ := by rfl
  simp only [Option.bind_some]
  rw [hc, hn, ByteArray.toList_eq]
  exact Ev.now _
theorem short_f (a : ByteArray) : copydesklaw16_short.f a = some (a.extract 0 (mn (a.size : Int) 600).toNat) := by
  unfold copydesklaw16_short.f
  rw [if_pos (by unfold mn; split <;> omega), if_pos (by unfold mn; split <;> omega)]
theorem short_size (a : ByteArray) : (a.extract 0 (mn (a.size : Int) 600).toNat).size ≤ 600 := by
  rw [ByteArray.size_extract]
  unfold mn
  split <;> omega
theorem ba_data (l : List UInt8) : (ba l).data.toList = l := rfl
theorem ba_inj {a b : List UInt8} (h : ba a = ba b) : a = b := by
  have := congrArg (fun x : ByteArray => x.data.toList) h
  exact this
theorem wordsBA_eq (a b : ByteArray) : wordsBA a = wordsBA b ↔ Tok.words a.data.toList = Tok.words b.data.toList := by
  unfold wordsBA
  constructor
  · intro h
    exact (List.map_inj_right (fun _ _ h => ba_inj h)).1 h
  · intro h; rw [h]
theorem normal_size (s : ByteArray) (h : s.size ≤ 600) : (ba (Tok.normal s.data.toList)).size ≤ 1099511627776 := by
  have h1 := join_size (Tok.words s.data.toList)
  have h2 := wgo_size s.data.toList []
  rw [sz] at h2
  unfold Tok.words at h1
  simp at h2
  show (Tok.join (Tok.wgo s.data.toList [])).toArray.size ≤ _
  rw [List.size_toArray]
  omega

attribute [local instance 10] Classical.propDecidable
theorem countOf_eq (l : List ByteArray) (t : ByteArray) : countOf l t = l.countP (fun x => decide (x = t)) := by
  unfold countOf
  rw [List.countP_eq_length_filter]
  congr 1
  congr 1
  funext x
  unfold neS
  rw [Bool.not_not, Bool.eq_iff_iff, decide_eq_true_iff, beq_iff_eq]
  exact ⟨ba_ext, fun h => by rw [h]⟩
theorem countP_or {α : Type} (p q : α → Bool) (h : ∀ x, p x = true → q x = false) : ∀ l : List α, l.countP (fun x => p x || q x) = l.countP p + l.countP q
  | [] => rfl
  | x :: l => by
    simp only [List.countP_cons]
    rw [countP_or p q h l]
    have := h x
    cases hp : p x <;> cases hq : q x <;> simp_all <;> omega
theorem counts_loop (ws : List ByteArray) (hn : ws.length ≤ 601) (hw : ∀ x ∈ ws, x.size ≤ 30) : ∀ (d k : Nat) (i : Int), 0 ≤ i → i ≤ ws.length → (ws.length : Int) - i = d → d < k → copydesklaw16_TokenCounts.l0 k true ws (ws.countP (fun x => decide (x ∈ ws.take i.toNat)) : Nat) i = some true := by
  intro d
  induction d with
  | zero =>
    intro k i h0 h1 hd hk
    obtain ⟨k, rfl⟩ : ∃ m, k = m + 1 := ⟨k - 1, by omega⟩
    simp only [copydesklaw16_TokenCounts.l0]
    rw [if_neg (by omega), if_pos trivial]
    congr 1
    rw [beq_iff_eq, List.take_of_length_le (by omega)]
    congr 1
    rw [List.countP_eq_length]
    intro x hx
    simpa using hx
  | succ d ih =>
    intro k i h0 h1 hd hk
    obtain ⟨k, rfl⟩ : ∃ m, k = m + 1 := ⟨k - 1, by omega⟩
    have hlt : i < (ws.length : Int) := by omega
    simp only [copydesklaw16_TokenCounts.l0]
    have hg : ws[i.toNat]? = some (rdOf ByteArray.empty ws i) := by
      simp [rdOf, List.getD_eq_getElem?_getD, List.getElem?_eq_getElem (show i.toNat < ws.length by omega)]
    have hmem : rdOf ByteArray.empty ws i ∈ ws := List.mem_of_getElem? hg
    have hsz := hw _ hmem
    have htk : ws.take (i.toNat + 1) = ws.take i.toNat ++ [rdOf ByteArray.empty ws i] := by
      rw [List.take_add_one, hg]; rfl
    obtain ⟨x, hx⟩ : ∃ x, rdOf ByteArray.empty ws i = x := ⟨_, rfl⟩
    rw [hx] at htk hsz hmem ⊢
    have hi1 : (i + 1).toNat = i.toNat + 1 := by omega
    have hb : ∀ p : ByteArray → Bool, ws.countP p ≤ 601 := fun p => Nat.le_trans List.countP_le_length hn
    rw [if_pos hlt, if_pos h0, if_pos (by omega), count_f _ _ (by rw [List.length_take]; omega) (by omega), count_f _ _ (by omega) (by omega), countOf_eq, countOf_eq]
    simp only [Option.bind_some]
    rw [wrapS h0 hlt (by omega)]
    have IH := ih k (i + 1) (by omega) (by omega) (by omega) (by omega)
    rw [hi1, htk] at IH
    by_cases hz : x ∈ ws.take i.toNat
    · rw [if_neg (by
        intro e
        have e : (ws.take i.toNat).countP (fun y => decide (y = x)) = 0 := by omega
        rw [List.countP_eq_zero] at e
        exact e x hz (by simp))]
      rw [← IH]
      congr 2
      apply List.countP_congr
      intro y _
      simp only [decide_eq_true_eq, List.mem_append, List.mem_singleton]
      constructor
      · exact Or.inl
      · rintro (h | rfl)
        · exact h
        · exact hz
    · rw [if_pos (by
        have : (ws.take i.toNat).countP (fun y => decide (y = x)) = 0 := by
          rw [List.countP_eq_zero]
          intro y hy
          simp only [decide_eq_true_eq]
          rintro rfl
          exact hz hy
        omega)]
      rw [← IH]
      congr 1
      have h2 := countP_or (fun y => decide (y ∈ ws.take i.toNat)) (fun y => decide (y = x)) (by
        intro y hy
        simp only [decide_eq_true_eq] at hy
        rw [decide_eq_false_iff_not]
        rintro rfl
        exact hz hy) ws
      have h3 : ws.countP (fun y => decide (y ∈ ws.take i.toNat ++ [x])) = ws.countP (fun y => decide (y ∈ ws.take i.toNat) || decide (y = x)) := by
        apply List.countP_congr
        intro y _
        simp
      rw [h3, h2]
      have b1 := hb (fun y => decide (y ∈ ws.take i.toNat))
      have b2 := hb (fun y => decide (y = x))
      unfold wrap64
      omega
theorem wordsBA_size (s : ByteArray) : ∀ x ∈ wordsBA s, x.size ≤ 30 := by
  intro x hx
  unfold wordsBA at hx
  obtain ⟨y, hy, rfl⟩ := List.mem_map.1 hx
  have := (Tok.words_isW _ y hy).2.1
  show y.toArray.size ≤ 30
  rw [List.size_toArray]
  exact this
theorem TokenCounts : copydesklaw16_TokenCounts.Pure := by
  intro a0 _
  refine Ev.rounds ?_
  unfold copydesklaw16_TokenCounts.f
  refine Ev.bind sane_ev ?_
  rw [short_f]
  have hs0 := short_size a0
  obtain ⟨s, hs⟩ : ∃ s, a0.extract 0 (mn (a0.size : Int) 600).toNat = s := ⟨_, rfl⟩
  rw [hs] at hs0 ⊢
  simp only [Option.bind_some]
  rw [words_f s (by omega)]
  simp only [Option.bind_some]
  have hl := wordsBA_len s
  have h := counts_loop (wordsBA s) (by omega) (wordsBA_size s) (wordsBA s).length ((wordsBA s).length + 1) 0 (by omega) (by omega) (by omega) (by omega)
  have z : (wordsBA s).countP (fun x => decide (x ∈ (wordsBA s).take (0 : Int).toNat)) = 0 := by
    rw [List.countP_eq_zero]; intro x _; simp
  rw [z] at h
  exact Ev.of (fun k => copydesklaw16_TokenCounts.mono_l k _ _ _ _) h

end Go.Proofs.YtgiajodcempniaaDoor.Pure
