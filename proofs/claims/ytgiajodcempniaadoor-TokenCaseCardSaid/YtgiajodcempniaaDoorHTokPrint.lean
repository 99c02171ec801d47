/- package token's three functions, in the print's form: a plain function and the contract. -/
import Derived.Test.YtgiajodcempniaaDoorHTokCount
namespace Go.Proofs.YtgiajodcempniaaDoor
open Go.RowKit Go.Proofs.YtgiajodcempniaaDoorW.PrintWords
def token_Words.f (a0 : ByteArray) : Option (List ByteArray) := if a0.size ≤ 1099511627776 then some (wordsBA a0) else none
theorem token_Words.calls (a0 : ByteArray) (r : List ByteArray) (w : World) (h : token_Words.f a0 = some r) :
    Calls Tryd.prog 14 #[.string a0] w fun e w' => ∃ v0_ : Value, e = .returned (v0_) ∧ Kd.R Kd.string 9 w' w.heap.size (fun _ => True) v0_ r ∧ Below w.heap.size w w' := by
  unfold token_Words.f at h
  split at h
  · obtain rfl := Option.some.inj h
    exact words_calls a0 ‹_› w
  · cases h
def token_Normal.f (a0 : ByteArray) : Option ByteArray := if a0.size ≤ 1099511627776 then some (ba (Tok.normal a0.data.toList)) else none
theorem token_Normal.calls (a0 : ByteArray) (r : ByteArray) (w : World) (h : token_Normal.f a0 = some r) :
    Calls Tryd.prog 16 #[.string a0] w fun e w' => e = .returned (.string r) ∧ Below w.heap.size w w' := by
  unfold token_Normal.f at h
  split at h
  · obtain rfl := Option.some.inj h
    exact normal_calls a0 ‹_› w
  · cases h
def token_Count.f (l0 : List ByteArray) (a1 : ByteArray) : Option Int := if l0.length ≤ 8796093022208 ∧ a1.size ≤ 140737488351232 then some (countOf l0 a1) else none
theorem token_Count.calls (A0 : Option Addr) (c0 : Nat) (l0 : List ByteArray) (a1 : ByteArray) (r : Int) (w : World) (hr0 : Kd.C Kd.string w A0 l0.length l0) (hc0 : l0.length ≤ c0) (h : token_Count.f l0 a1 = some r) :
    Calls Tryd.prog 18 #[.slice A0 l0.length c0, .string a1] w fun e w' => e = .returned (.int .i64 r) ∧ Below w.heap.size w w' := by
  unfold token_Count.f at h
  split at h
  · rename_i hh
    obtain rfl := Option.some.inj h
    exact count_calls A0 c0 l0 a1 w (by unfold maxLen; omega) hh.1 hr0 hc0
  · cases h
end Go.Proofs.YtgiajodcempniaaDoor
