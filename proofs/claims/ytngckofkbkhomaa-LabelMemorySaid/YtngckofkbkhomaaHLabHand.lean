/- label.subset[int] in the print's form. -/
import Derived.Test.YtngckofkbkhomaaHLabSubset
namespace Go.Proofs.Ytngckofkbkhomaa
set_option linter.unusedVariables false
set_option linter.unusedSimpArgs false
open Go.RowKit Go.Proofs.YtngckofkbkhomaaW.PrintWords
def label_subset_int.f (l0 l1 : List Int) : Option Bool := some (subGo l0 l1)
theorem label_subset_int.calls (A0 : Option Addr) (c0 : Nat) (l0 : List Int) (A1 : Option Addr) (c1 : Nat) (l1 : List Int) (r : Bool) (w : World) (hr0 : Kd.C (Kd.int .i64) w A0 l0.length l0) (hc0 : l0.length ≤ c0) (hr1 : Kd.C (Kd.int .i64) w A1 l1.length l1) (hc1 : l1.length ≤ c1) (h : label_subset_int.f l0 l1 = some r) :
    Calls Try.prog 31 #[.slice A0 l0.length c0, .slice A1 l1.length c1] w fun e w' => e = .returned (.bool r) ∧ Drawn0 w w' := by
  obtain rfl := Option.some.inj h
  refine (subset_calls A0 A1 c0 c1 l0 l1 w hr0 hr1).mono ?_
  rintro e w' ⟨rfl, rfl⟩
  exact ⟨rfl, ⟨0, rfl⟩⟩
end Go.Proofs.Ytngckofkbkhomaa
