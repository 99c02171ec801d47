/- copydesk/token.small at a run of bytes below 128: the same with small letters. -/
import Derived.Test.YtgiajodcempniaaDoorHMapAscii
import Derived.Test.YtgiajodcempniaaDoorHShelf
import Derived.Test.YtgiajodcempniaaDoorHTokPure
import Derived.Lib.TrimAscii
import Derived.Laws.RangeString
namespace Go.Proofs.YtgiajodcempniaaDoor
open Go.RowKit Go.Shelf
open Tok (isP low)

def lowR (z : Int) : Int := if 65 ≤ z ∧ z ≤ 90 then z + 32 else z
def lowBA (s : ByteArray) : ByteArray := ⟨(s.data.toList.map low).toArray⟩

theorem lowR_low (c : UInt8) : lowR (c.toNat : Int) = ((low c).toNat : Int) := by
  unfold lowR low
  by_cases h : 65 ≤ (c.toNat : Int) ∧ (c.toNat : Int) ≤ 90
  · rw [if_pos h, if_pos (by simp only [Bool.and_eq_true, decide_eq_true_eq, UInt8.le_iff_toNat_le]; simp; omega)]
    rw [UInt8.toNat_add]
    simp
    omega
  · rw [if_neg h, if_neg (by simp only [Bool.and_eq_true, decide_eq_true_eq, UInt8.le_iff_toNat_le]; simp; omega)]
theorem low_lt (c : UInt8) (h : c.toNat < 128) : (low c).toNat < 128 := by
  have := lowR_low c
  unfold lowR at this
  split at this <;> omega
theorem mapD_low : ∀ (l : List UInt8), (∀ c ∈ l, c.toNat < 128) → Lib.mapD lowR l = l.map low
  | [], _ => Lib.mapD_nil _
  | c :: l, h => by
    have hc := h c (by simp)
    rw [Lib.mapD_step lowR (c :: l) (by simp), Lib.decodeL_ascii c l hc]
    dsimp only
    rw [lowR_low, if_pos (by omega), List.drop_succ_cons, List.drop_zero, mapD_low l (fun d hd => h d (by simp [hd]))]
    unfold Lib.encodeRune
    rw [Lib.encodeRuneZ_one (by omega) (by have := low_lt c hc; omega)]
    simp

theorem small1_calls (x : Nat) (hx : x ≤ 1114111) (w : World) :
    Calls Tryd.prog 31 #[.int .i32 (x : Int)] w fun e w' => e = .returned (.int .i32 (lowR x)) ∧ w' = w := by
  by_cases h1 : 65 ≤ (x : Int)
  · by_cases h2 : (x : Int) ≤ 90
    · have e : lowR (x : Int) = x + 32 := by unfold lowR; rw [if_pos ⟨h1, h2⟩]
      rw [e]
      go_enter Tryd.func31, Tryd.ntmps31
      go_wp2
      go_ret
      refine ⟨?_, rfl⟩
      show Ending.returned (.int .i32 _) = _
      congr 2
      omega
    · have e : lowR (x : Int) = x := by unfold lowR; rw [if_neg (by omega)]
      rw [e]
      go_enter Tryd.func31, Tryd.ntmps31
      go_wp2
      go_ret
      exact ⟨rfl, rfl⟩
  · have e : lowR (x : Int) = x := by unfold lowR; rw [if_neg (by omega)]
    rw [e]
    go_enter Tryd.func31, Tryd.ntmps31
    go_wp2
    go_ret
    exact ⟨rfl, rfl⟩

theorem small_calls (s : ByteArray) (w : World) (hs : s.size < 35184372088832) (ha : ∀ c ∈ s.data.toList, c.toNat < 128) :
    Calls Tryd.prog 22 #[.string s] w fun e w' => e = .returned (.string (lowBA s)) ∧ Below w.heap.size w w' := by
  have hm : ∀ pos, pos < s.size → (Utf8.decode s pos).1 ≠ 65533 := by
    intro pos hp
    have h1 : (s[pos]'hp).toNat < 128 := ha _ (by rw [show s[pos]'hp = s.data.toList[pos]'(by simpa using hp) from rfl]; exact List.getElem_mem _)
    rw [decode_ascii s pos hp h1]
    dsimp only
    omega
  have cM := Any.strings_Map_ascii Tryd.lays230 Tryd.Builder_Extra_230 31 #[] (enters_of Tryd.func31 (by kernel_rfl) rfl) lowR s w hs
    (fun W x hx _ => (small1_calls x hx W).mono fun e w' ⟨he, hw⟩ => ⟨he, 0, hw⟩)
    (fun x hx => by unfold lowR; split <;> omega) hm
  rw [mapD_low _ ha] at cM
  go_enter Tryd.func22, Tryd.ntmps22
  go_wp2_with (go_at_call 30; refine cM.mono ?_; rintro e w' ⟨rfl, hb⟩)
  go_ret
  exact ⟨rfl, hb⟩
end Go.Proofs.YtgiajodcempniaaDoor
