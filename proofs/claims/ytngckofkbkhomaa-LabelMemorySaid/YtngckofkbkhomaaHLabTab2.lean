/- Tables of numbers and of slices in one block, read at any index. -/
import Derived.Test.YtngckofkbkhomaaHLabTab
namespace Go.Proofs.Ytngckofkbkhomaa
open Go.RowKit Go.Proofs.YtngckofkbkhomaaW.PrintWords
set_option linter.unusedVariables false
/-- a number of a table -/
theorem ints_at {w : World} {B : Nat} {cs : Array Value} {t : TypeId} (ns : List Int) (he : cs = (ns.map (Value.int .i64)).toArray) (i : Nat) (hi : i < ns.length) :
    ∃ n : Int, n ∈ ns ∧ ∀ (L' : List (Option Addr × List Int)) (M' : List (Nat × Array Value × TypeId)) (W' : World), (B, cs, t) ∈ M' → St w L' M' W' → W'.cell? ⟨B, i, none⟩ = some (.int .i64 n) := by
  refine ⟨ns[i], List.getElem_mem hi, fun L' M' W' hM h => (h.cell hM i).trans ?_⟩
  rw [he, List.getElem?_toArray, List.getElem?_map, List.getElem?_eq_getElem hi]
  rfl
/-- a slice of a table -/
theorem slices_at {w : World} {L : List (Option Addr × List Int)} {B : Nat} {cs : Array Value} {t : TypeId} (xs : List (Option Addr × List Int × Nat)) (he : cs = (xs.map (fun x => Value.slice x.1 x.2.1.length x.2.2)).toArray)
    (hx : ∀ p ∈ xs, (p.1, p.2.1) ∈ L ∧ p.2.1.length ≤ p.2.2) (i : Nat) (hi : i < xs.length) :
    ∃ (E : Option Addr) (l : List Int) (m : Nat), (E, l) ∈ L ∧ l.length ≤ m ∧ ∀ (L' : List (Option Addr × List Int)) (M' : List (Nat × Array Value × TypeId)) (W' : World), (B, cs, t) ∈ M' → St w L' M' W' → W'.cell? ⟨B, i, none⟩ = some (.slice E l.length m) := by
  obtain ⟨h1, h2⟩ := hx xs[i] (List.getElem_mem hi)
  refine ⟨xs[i].1, xs[i].2.1, xs[i].2.2, h1, h2, fun L' M' W' hM h => (h.cell hM i).trans ?_⟩
  rw [he, List.getElem?_toArray, List.getElem?_map, List.getElem?_eq_getElem hi]
  rfl
end Go.Proofs.Ytngckofkbkhomaa
