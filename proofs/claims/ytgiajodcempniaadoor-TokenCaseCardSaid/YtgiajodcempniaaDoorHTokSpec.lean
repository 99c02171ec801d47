/- The runs' words are the words of the one pass; token.Words in the print's form. -/
import Derived.Test.YtgiajodcempniaaDoorHTokWords
namespace Go.Proofs.YtgiajodcempniaaDoor
open Go.RowKit Go.Proofs.YtgiajodcempniaaDoorW.PrintWords
open Tok (isP)
set_option linter.unusedVariables false

def ba (l : List UInt8) : ByteArray := ⟨l.toArray⟩
def wordsBA (s : ByteArray) : List ByteArray := (Tok.words s.data.toList).map ba

namespace Tok
theorem wgo_run : ∀ (run w rest : List UInt8), (∀ c ∈ run, isP c = true) → w.length ≤ 30 → wgo (run ++ rest) w = wgo rest ((w ++ run.map low).take 30)
  | [], w, rest, _, hw => by rw [List.nil_append, List.map_nil, List.append_nil, List.take_of_length_le hw]
  | c :: run, w, rest, h, hw => by
    rw [List.cons_append, wgo, if_pos (h c (by simp))]
    by_cases hl : w.length < 30
    · rw [if_pos hl, wgo_run run _ rest (fun d hd => h d (by simp [hd])) (by simp; omega)]
      simp
    · rw [if_neg hl, wgo_run run w rest (fun d hd => h d (by simp [hd])) hw]
      rw [List.take_append_of_le_length (by omega), List.take_append_of_le_length (by omega)]
theorem wgo_skip : ∀ (sk rest : List UInt8), (∀ c ∈ sk, isP c = false) → wgo (sk ++ rest) [] = wgo rest []
  | [], rest, _ => rfl
  | c :: sk, rest, h => by
    rw [List.cons_append, wgo, if_neg (by rw [h c (by simp)]; simp), if_pos rfl]
    exact wgo_skip sk rest (fun d hd => h d (by simp [hd]))
theorem wgo_end (w rest : List UInt8) (hw : w ≠ []) (h : ∀ c r, rest = c :: r → isP c = false) : wgo rest w = w :: wgo rest [] := by
  cases rest with
  | nil => simp [wgo, hw]
  | cons c r => simp [wgo, h c r rfl, hw]
end Tok

theorem takeWhile_all {α : Type} (p : α → Bool) : ∀ (l : List α), ∀ c ∈ l.takeWhile p, p c = true
  | [], c, h => by cases h
  | x :: l, c, h => by
    rw [List.takeWhile_cons] at h
    by_cases hx : p x = true
    · rw [if_pos hx] at h
      rcases List.mem_cons.1 h with rfl | h
      · exact hx
      · exact takeWhile_all p l c h
    · rw [if_neg hx] at h; cases h
theorem drop_nxt (s : ByteArray) (i : Int) (p : Bool) (h0 : 0 ≤ i) (h : i ≤ s.size) : s.data.toList.drop i.toNat = (s.data.toList.drop i.toNat).takeWhile (fun c => isP c != p) ++ s.data.toList.drop (nxt s i p).toNat := by
  have e : (nxt s i p).toNat = i.toNat + nx (s.data.toList.drop i.toNat) p := by unfold nxt; omega
  rw [e, ← List.drop_drop]
  unfold nx
  conv => lhs; rw [← List.takeWhile_append_dropWhile (p := fun c => isP c != p) (l := s.data.toList.drop i.toNat)]
  congr 1
  conv => rhs; arg 2; rw [← List.takeWhile_append_dropWhile (p := fun c => isP c != p) (l := s.data.toList.drop i.toNat)]
  rw [List.drop_left]

theorem spans_words (s : ByteArray) : ∀ (k : Nat) (a : Int), 0 ≤ a → a ≤ s.size → (a < s.size → isPI (bt s a) = true) → s.size - a.toNat + 1 ≤ k → (spans s k a).map (wordOf s) = (Tok.wgo (s.data.toList.drop a.toNat) []).map ba
  | 0, a, _, _, _, hk => by omega
  | k + 1, a, h0, h1, hp, hk => by
    by_cases ha : a < s.size
    · have hb1 := nxt_bd s a false h0 h1
      have hgt : a < nxt s a false := by
        rw [nxt_step s a false h0 ha (by rw [hp ha]; simp)]
        have := nxt_bd s (a + 1) false (by omega) (by omega)
        omega
      have hb2 := nxt_bd s (nxt s a false) true (by omega) (by omega)
      have hal := nxt_all s false s.size a h0 (by omega)
      have hh1 := nxt_hit s false s.size a h0 (by omega)
      have hh2 := nxt_hit s true s.size (nxt s a false) (by omega) (by omega)
      have d1 := drop_nxt s a false h0 h1
      have d2 := drop_nxt s (nxt s a false) true (by omega) hb1.2
      have hlen : ((s.data.toList.drop a.toNat).takeWhile (fun c => isP c != false)).length = (nxt s a false - a).toNat := by
        show nx _ _ = _
        unfold nxt; omega
      obtain ⟨run, hrun⟩ : ∃ run, (s.data.toList.drop a.toNat).takeWhile (fun c => isP c != false) = run := ⟨_, rfl⟩
      have hrp : ∀ c ∈ run, isP c = true := by
        intro c hc
        rw [← hrun] at hc
        have := takeWhile_all _ _ c hc
        simpa using this
      have hskp : ∀ c ∈ (s.data.toList.drop (nxt s a false).toNat).takeWhile (fun c => isP c != true), isP c = false := by
        intro c hc
        have := takeWhile_all _ _ c hc
        simpa using this
      rw [hrun] at d1 hlen
      have hne : (run.map Tok.low).take 30 ≠ [] := by
        intro e
        have := congrArg List.length e
        rw [List.length_take, List.length_map, hlen] at this
        simp at this
        omega
      have hend : Tok.wgo (s.data.toList.drop (nxt s a false).toNat) ((run.map Tok.low).take 30) = (run.map Tok.low).take 30 :: Tok.wgo (s.data.toList.drop (nxt s a false).toNat) [] := by
        refine Tok.wgo_end _ _ hne ?_
        intro c r e
        by_cases hE : nxt s a false < s.size
        · obtain ⟨c', hd, hb⟩ := bt_drop s (nxt s a false) (by omega) hE
          rw [hd] at e
          injection e with e1 e2
          subst e1
          have := hh1 hE
          rw [hb, isPI_isP] at this
          exact this
        · rw [List.drop_eq_nil_of_le (by rw [sz]; omega)] at e
          cases e
      have hw : wordOf s (a, nxt s a false) = ba ((run.map Tok.low).take 30) := by
        unfold wordOf lowBA ba
        have e1 : (s.extract a.toNat (min (nxt s a false) (a + 30)).toNat).data.toList = run.take 30 := by
          rw [ByteArray.data_extract, Array.toList_extract, List.extract_eq_take_drop, d1]
          rw [List.take_append_of_le_length (by rw [hlen]; omega)]
          by_cases h30 : nxt s a false - a ≤ 30
          · rw [List.take_of_length_le (by rw [hlen]; omega), List.take_of_length_le (by rw [hlen]; omega)]
          · congr 1; omega
        dsimp only
        rw [e1, List.map_take]
      simp only [spans, if_pos ha, List.map_cons]
      rw [hw, spans_words s k _ (by omega) hb2.2 hh2 (by omega), d1, Tok.wgo_run run [] _ hrp (by simp), List.nil_append, hend, List.map_cons]
      congr 2
      conv => rhs; rw [d2]
      rw [Tok.wgo_skip _ _ hskp]
    · simp only [spans, if_neg ha, List.map_nil]
      rw [List.drop_eq_nil_of_le (by rw [sz]; omega)]
      rfl

theorem spansOf_words (s : ByteArray) : (spansOf s).map (wordOf s) = wordsBA s := by
  unfold spansOf wordsBA
  have hb := nxt_bd s 0 true (by omega) (by omega)
  rw [spans_words s _ _ hb.1 hb.2 (nxt_hit s true s.size 0 (by omega) (by omega)) (by omega)]
  have d := drop_nxt s 0 true (by omega) (by omega)
  rw [show (0 : Int).toNat = 0 from rfl, List.drop_zero] at d
  have hskp : ∀ c ∈ s.data.toList.takeWhile (fun c => isP c != true), isP c = false := by
    intro c hc
    have := takeWhile_all _ _ c hc
    simpa using this
  conv => rhs; unfold Tok.words; rw [d]
  rw [Tok.wgo_skip _ _ hskp]

/-- token.Words: the words, in a row of the call's own. -/
theorem words_calls (s : ByteArray) (hs : s.size ≤ 1099511627776) (w : World) :
    Calls Tryd.prog 14 #[.string s] w fun e w' => ∃ v0_ : Value, e = .returned (v0_) ∧ Kd.R Kd.string 9 w' w.heap.size (fun _ => True) v0_ (wordsBA s) ∧ Below w.heap.size w w' :=
  (words_own s hs w).mono fun e w' ⟨v, he, ho, hb⟩ => ⟨v, he, Kd.R_of_own (by rw [← spansOf_words]; exact ho) (fun _ _ => trivial), hb⟩
end Go.Proofs.YtgiajodcempniaaDoor
