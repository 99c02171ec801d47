/- copydesk/token.isPart, token.next: what they answer. -/
import Derived.Test.YtgiajodcempniaaDoorHTokPure
import Derived.Test.YtgiajodcempniaaDoorProg
import Derived.WalkKit
import Derived.Deep.LoopGhost
import Derived.Deep.QuietTactic
import Derived.BigQuiet
import Derived.Test.YtgiajodcempniaaDoorWWords
namespace Go.Proofs.YtgiajodcempniaaDoor
open Go.RowKit Go.Proofs.YtgiajodcempniaaDoorW.PrintWords
open Tok (isP low)
set_option linter.unusedVariables false

def isPI (c : Int) : Bool := (decide (97 ≤ c) && decide (c ≤ 122)) || (decide (65 ≤ c) && decide (c ≤ 90)) || (decide (48 ≤ c) && decide (c ≤ 57))
theorem isPI_isP (c : UInt8) : isPI (c.toNat : Int) = isP c := by
  unfold isPI isP
  rw [Bool.eq_iff_iff]
  simp only [Bool.or_eq_true, Bool.and_eq_true, decide_eq_true_eq, UInt8.le_iff_toNat_le]
  simp
  omega

theorem ret_b {a b : Bool} (h : a = b) : Ending.returned (.bool a) = .returned (.bool b) := by rw [h]
theorem ret_i {k : IntKind} {a b : Int} (h : a = b) : Ending.returned (.int k a) = .returned (.int k b) := by rw [h]

theorem isPI_t {c : Int} (h : (97 ≤ c ∧ c ≤ 122) ∨ (65 ≤ c ∧ c ≤ 90) ∨ (48 ≤ c ∧ c ≤ 57)) : true = isPI c := by
  unfold isPI
  symm
  simp only [Bool.or_eq_true, Bool.and_eq_true, decide_eq_true_eq]
  omega
theorem isPI_f {c : Int} (h : ¬ ((97 ≤ c ∧ c ≤ 122) ∨ (65 ≤ c ∧ c ≤ 90) ∨ (48 ≤ c ∧ c ≤ 57))) : false = isPI c := by
  unfold isPI
  symm
  rw [Bool.eq_false_iff]
  simp only [ne_eq, Bool.or_eq_true, Bool.and_eq_true, decide_eq_true_eq]
  omega

theorem isPart_calls (c : Int) (w : World) :
    Calls Tryd.prog 36 #[.int .u8 c] w fun e w' => e = .returned (.bool (isPI c)) ∧ w' = w := by
  go_enter Tryd.func36, Tryd.ntmps36
  go_wp2
  all_goals go_ret
  all_goals first | exact ⟨ret_b (isPI_t (by omega)), rfl⟩ | exact ⟨ret_b (isPI_f (by omega)), rfl⟩

/-- how many bytes at the head of l are (p = false), or are not (p = true), letters and digits -/
def nx (l : List UInt8) (p : Bool) : Nat := (l.takeWhile fun c => isP c != p).length
theorem nx_le (l : List UInt8) (p : Bool) : nx l p ≤ l.length := (List.takeWhile_sublist _).length_le
theorem sz (s : ByteArray) : s.data.toList.length = s.size := by rw [Array.length_toList]; rfl
theorem bt_drop (s : ByteArray) (i : Int) (h0 : 0 ≤ i) (h : i < s.size) : ∃ c : UInt8, s.data.toList.drop i.toNat = c :: s.data.toList.drop (i.toNat + 1) ∧ bt s i = c.toNat := by
  have hl : i.toNat < s.data.toList.length := by rw [sz]; omega
  refine ⟨s.data.toList[i.toNat], List.drop_eq_getElem_cons hl, ?_⟩
  rw [← bt_at s i (by omega)]
  rfl
def nxt (s : ByteArray) (i : Int) (p : Bool) : Int := i + nx (s.data.toList.drop i.toNat) p
theorem nxt_end (s : ByteArray) (i : Int) (p : Bool) (h0 : 0 ≤ i) (h : ¬ i < s.size) : nxt s i p = i := by
  unfold nxt nx
  rw [List.drop_eq_nil_of_le (by rw [sz]; omega)]
  simp
theorem nxt_stop (s : ByteArray) (i : Int) (p : Bool) (h0 : 0 ≤ i) (h : i < s.size) (hp : isPI (bt s i) = p) : nxt s i p = i := by
  obtain ⟨c, hd, hb⟩ := bt_drop s i h0 h
  unfold nxt nx
  rw [hb, isPI_isP] at hp
  rw [hd]
  simp [hp]
theorem nxt_step (s : ByteArray) (i : Int) (p : Bool) (h0 : 0 ≤ i) (h : i < s.size) (hp : ¬ isPI (bt s i) = p) : nxt s i p = nxt s (i + 1) p := by
  obtain ⟨c, hd, hb⟩ := bt_drop s i h0 h
  unfold nxt nx
  rw [hb, isPI_isP] at hp
  rw [hd, show (i + 1).toNat = i.toNat + 1 by omega]
  rw [List.takeWhile_cons, if_pos (by simpa using hp)]
  simp
  omega
theorem nxt_bd (s : ByteArray) (i : Int) (p : Bool) (h0 : 0 ≤ i) (h : i ≤ s.size) : i ≤ nxt s i p ∧ nxt s i p ≤ s.size := by
  unfold nxt
  have := nx_le (s.data.toList.drop i.toNat) p
  rw [List.length_drop] at this
  have e := sz s
  omega

theorem nxt_hit (s : ByteArray) (p : Bool) : ∀ (d : Nat) (i : Int), 0 ≤ i → (s.size : Int) - i ≤ d → nxt s i p < s.size → isPI (bt s (nxt s i p)) = p
  | 0, i, h0, hd, h => by
    rw [nxt_end s i p h0 (by omega)] at h
    omega
  | d + 1, i, h0, hd, h => by
    by_cases hi : i < s.size
    · by_cases hp : isPI (bt s i) = p
      · rw [nxt_stop s i p h0 hi hp]; exact hp
      · rw [nxt_step s i p h0 hi hp] at h ⊢
        exact nxt_hit s p d (i + 1) (by omega) (by omega) h
    · rw [nxt_end s i p h0 hi] at h; omega

theorem nxt_all (s : ByteArray) (p : Bool) : ∀ (d : Nat) (i : Int), 0 ≤ i → (s.size : Int) - i ≤ d → ∀ j, i ≤ j → j < nxt s i p → isPI (bt s j) = !p
  | 0, i, h0, hd, j, h1, h2 => by
    rw [nxt_end s i p h0 (by omega)] at h2
    omega
  | d + 1, i, h0, hd, j, h1, h2 => by
    by_cases hi : i < s.size
    · by_cases hp : isPI (bt s i) = p
      · rw [nxt_stop s i p h0 hi hp] at h2; omega
      · rw [nxt_step s i p h0 hi hp] at h2
        by_cases hj : j = i
        · subst hj; cases p <;> simpa using hp
        · exact nxt_all s p d (i + 1) (by omega) (by omega) j (by omega) h2
    · rw [nxt_end s i p h0 hi] at h2; omega

set_option maxRecDepth 100000 in
set_option maxHeartbeats 1000000 in
theorem next_calls (s : ByteArray) (i : Int) (p : Bool) (w : World) (hs : s.size ≤ 9223372036854775806) (h0 : 0 ≤ i) (h : i ≤ s.size) :
    Calls Tryd.prog 29 #[.string s, .int .i64 i, .bool p] w fun e w' => e = .returned (.int .i64 (nxt s i p)) ∧ w' = w := by
  obtain ⟨R, hR⟩ : ∃ R, R = nxt s i p := ⟨_, rfl⟩
  rw [← hR]
  have HR0 := Aside0.mk hR
  clear hR
  go_enter Tryd.func29, Tryd.ntmps29
  go_wp2
  go_loopg [1] (s.size - i.toNat + 1) (fun gk v w' => ∃ (m : Int), v = .int .i64 m ∧ Aside0 (0 ≤ m ∧ m ≤ s.size ∧ (gk : Int) = s.size - m + 1 ∧ R = nxt s m p) ∧ w' = w)
  case atStart => exact ⟨i, rfl, ⟨h0, h, by omega, HR0.out⟩, rfl⟩
  case round =>
    clear HR0 h0 h
    obtain ⟨m, rfl, HI, rfl⟩ := hrel
    by_cases hm : m < s.size
    · have p0 : 0 ≤ m := HI.out.1
      have hw : wrap64 (m + 1) = m + 1 := by unfold wrap64; omega
      have hbt := bt_at s m
      have hd1 : decide (m < (s.size : Int)) = true := decide_eq_true hm
      have hd2 : decide (0 ≤ m) = true := decide_eq_true p0
      go_wp2_with (go_at_call 36; refine (isPart_calls _ _).mono ?_; rintro e w' ⟨rfl, rfl⟩)
      · have ht : (!isPI (bt s m) == p) = true := by assumption
        have HN := HI.out.2.2.2.trans (nxt_step s m p p0 hm (by intro h; rw [h] at ht; simp at ht))
        go_roundg (s.size - (m + 1).toNat + 1)
        case rel => exact ⟨m + 1, by first | rfl | rw [hw], ⟨by have := HI.out; refine ⟨by omega, by omega, by omega, HN⟩⟩, rfl⟩
        case measure => have := HI.out; omega
      · have ht : (!isPI (bt s m) == p) = false := by assumption
        have HN := HI.out.2.2.2.trans (nxt_stop s m p p0 hm (by cases h : isPI (bt s m) <;> cases p <;> simp_all))
        go_ret
        exact ⟨ret_i HN.symm, rfl⟩
    · have hd1 : decide (m < (s.size : Int)) = false := decide_eq_false hm
      have HN := Aside0.mk (HI.out.2.2.2.trans (nxt_end s m p HI.out.1 hm))
      go_wp2
      go_ret
      exact ⟨ret_i HN.out.symm, rfl⟩
end Go.Proofs.YtgiajodcempniaaDoor
