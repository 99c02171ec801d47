/- The plain law of package token: words of a list of bytes, by one pass. No program in sight. -/
namespace Go.Proofs.YtgiajodcempniaaDoor.Tok

/-- letters and digits -/
def isP (c : UInt8) : Bool := (97 ≤ c && c ≤ 122) || (65 ≤ c && c ≤ 90) || (48 ≤ c && c ≤ 57)
def low (c : UInt8) : UInt8 := if 65 ≤ c && c ≤ 90 then c + 32 else c

/-- the words of l, w being the word that has begun -/
def wgo : List UInt8 → List UInt8 → List (List UInt8)
  | [], w => if w = [] then [] else [w]
  | c :: l, w => if isP c then wgo l (if w.length < 30 then w ++ [low c] else w) else (if w = [] then wgo l [] else w :: wgo l [])
def words (l : List UInt8) : List (List UInt8) := wgo l []

theorem wgo_sep (c : UInt8) (hc : isP c = false) (b : List UInt8) : ∀ (a w : List UInt8), wgo (a ++ c :: b) w = wgo a w ++ words b
  | [], w => by
    simp only [List.nil_append, wgo, hc, words]
    by_cases hw : w = [] <;> simp [hw]
  | x :: a, w => by
    simp only [List.cons_append, wgo]
    by_cases hx : isP x = true
    · simp only [hx, if_true]; exact wgo_sep c hc b a _
    · simp only [hx, if_false, Bool.false_eq_true]
      by_cases hw : w = []
      · simp only [hw, if_true]; exact wgo_sep c hc b a _
      · simp only [hw, if_false, List.cons_append]; rw [wgo_sep c hc b a []]

theorem words_sep (a b : List UInt8) (c : UInt8) (hc : isP c = false) : words (a ++ c :: b) = words a ++ words b := wgo_sep c hc b a []

/-- a word: 1 to 30 small letters and digits -/
def isW (w : List UInt8) : Prop := 1 ≤ w.length ∧ w.length ≤ 30 ∧ ∀ c ∈ w, isP c = true ∧ low c = c

theorem low_low (c : UInt8) : low (low c) = low c := by
  unfold low
  by_cases h : (65 ≤ c && c ≤ 90) = true
  · rw [if_pos h]
    rw [if_neg]
    simp only [Bool.and_eq_true, decide_eq_true_eq, UInt8.le_iff_toNat_le] at h ⊢
    have : (c + 32).toNat = c.toNat + 32 := by
      rw [UInt8.toNat_add]; have := h.2; simp at this ⊢; omega
    rw [this]; simp at h ⊢; omega
  · rw [if_neg h, if_neg h]
theorem isP_low (c : UInt8) : isP (low c) = isP c := by
  unfold low
  by_cases h : (65 ≤ c && c ≤ 90) = true
  · rw [if_pos h]
    simp only [Bool.and_eq_true, decide_eq_true_eq, UInt8.le_iff_toNat_le] at h
    have h1 : (c + 32).toNat = c.toNat + 32 := by
      rw [UInt8.toNat_add]; have := h.2; simp at this ⊢; omega
    have h2 : isP c = true := by
      simp only [isP, Bool.or_eq_true, Bool.and_eq_true, decide_eq_true_eq, UInt8.le_iff_toNat_le]; exact .inl (.inr h)
    rw [h2]
    simp only [isP, Bool.or_eq_true, Bool.and_eq_true, decide_eq_true_eq, UInt8.le_iff_toNat_le, h1]
    have := h.1; have := h.2; simp at *; omega
  · rw [if_neg h]

theorem wgo_isW : ∀ (l w : List UInt8), w.length ≤ 30 → (∀ c ∈ w, isP c = true ∧ low c = c) → ∀ x ∈ wgo l w, isW x
  | [], w, h1, h2, x, hx => by
    simp only [wgo] at hx
    by_cases hw : w = []
    · simp [hw] at hx
    · simp only [hw, if_false, List.mem_singleton] at hx
      subst hx
      exact ⟨by cases x with | nil => exact absurd rfl hw | cons _ _ => simp, h1, h2⟩
  | c :: l, w, h1, h2, x, hx => by
    simp only [wgo] at hx
    by_cases hc : isP c = true
    · simp only [hc, if_true] at hx
      by_cases hl : w.length < 30
      · rw [if_pos hl] at hx
        refine wgo_isW l _ (by simp; omega) ?_ x hx
        intro d hd
        rcases List.mem_append.1 hd with hd | hd
        · exact h2 d hd
        · simp at hd; subst hd; exact ⟨by rw [isP_low]; exact hc, low_low c⟩
      · rw [if_neg hl] at hx
        exact wgo_isW l w h1 h2 x hx
    · simp only [hc, if_false, Bool.false_eq_true] at hx
      by_cases hw : w = []
      · simp only [hw, if_true] at hx
        exact wgo_isW l [] (by simp) (by simp) x hx
      · simp only [hw, if_false, List.mem_cons] at hx
        rcases hx with rfl | hx
        · exact ⟨by cases x with | nil => exact absurd rfl hw | cons _ _ => simp, h1, h2⟩
        · exact wgo_isW l [] (by simp) (by simp) x hx
theorem words_isW (l : List UInt8) : ∀ x ∈ words l, isW x := wgo_isW l [] (by simp) (by simp)

theorem wgo_word : ∀ (x w : List UInt8), (∀ c ∈ x, isP c = true ∧ low c = c) → w.length + x.length ≤ 30 → wgo x w = if w ++ x = [] then [] else [w ++ x]
  | [], w, _, _ => by simp [wgo]
  | c :: x, w, h, hl => by
    have hc := h c (by simp)
    simp only [wgo, hc.1, if_true]
    rw [if_pos (by simp at hl; omega), hc.2, wgo_word x _ (fun d hd => h d (by simp [hd])) (by simp at hl ⊢; omega)]
    simp
theorem words_word {x : List UInt8} (h : isW x) : words x = [x] := by
  unfold words
  rw [wgo_word x [] h.2.2 (by simpa using h.2.1)]
  have := h.1
  cases x with
  | nil => simp at this
  | cons _ _ => simp

/-- the words, blanks between them -/
def join : List (List UInt8) → List UInt8
  | [] => []
  | [x] => x
  | x :: y :: l => x ++ 32 :: join (y :: l)
theorem join_cons (x : List UInt8) {l : List (List UInt8)} (h : l ≠ []) : join (x :: l) = x ++ 32 :: join l := by
  cases l with
  | nil => exact absurd rfl h
  | cons y l => rfl
theorem words_join : ∀ (l : List (List UInt8)), (∀ x ∈ l, isW x) → words (join l) = l
  | [], _ => rfl
  | [x], h => words_word (h x (by simp))
  | x :: y :: l, h => by
    rw [join_cons x (by simp), words_sep x _ 32 (by decide), words_word (h x (by simp)), words_join (y :: l) (fun z hz => h z (by simp [hz]))]
    rfl
def normal (l : List UInt8) : List UInt8 := join (words l)
theorem words_normal (l : List UInt8) : words (normal l) = words l := words_join _ (words_isW l)
theorem normal_normal (l : List UInt8) : normal (normal l) = normal l := by
  show join (words (normal l)) = _
  rw [words_normal]; rfl
theorem normal_tells (a b : List UInt8) : normal a = normal b ↔ words a = words b :=
  ⟨fun h => by rw [← words_normal a, ← words_normal b, h], fun h => by unfold normal; rw [h]⟩
theorem words_case (f : UInt8 → UInt8) (h1 : ∀ c, isP (f c) = isP c) (h2 : ∀ c, low (f c) = low c) : ∀ (l w : List UInt8), wgo (l.map f) w = wgo l w
  | [], w => rfl
  | c :: l, w => by
    simp only [List.map_cons, wgo, h1, h2]
    simp only [words_case f h1 h2 l]

end Go.Proofs.YtgiajodcempniaaDoor.Tok
