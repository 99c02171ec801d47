/- slices.Sort and slices.Compact at []int, a row of the call's own. -/
import Derived.Test.YtngckofkbkhomaaHLabConcat
import Derived.Test.YtngckofkbkhomaaHShelf
import Derived.Shelf.Slices.In.SortNone
import Derived.Sort.OwnSortedInts
import Derived.Lib.RowBridge
namespace Go.Proofs.Ytngckofkbkhomaa
open Go.RowKit Go.Lib Go.Sort Go.Proofs.YtngckofkbkhomaaW.PrintWords Go.Proofs.YtngckofkbkhomaaW.PrintLast Go.Proofs.YtngckofkbkhomaaW.PrintMore
set_option linter.unusedVariables false
abbrev sorted (l : List Int) : List Int := l.mergeSort fun x y => decide (x ≤ y)
theorem sort_own (base : Nat) (v : Value) (l : List Int) (w : World) (ho : w.ownsRow base 3 1 v l.length (nums .i64 l)) (hb : base ≤ w.heap.size) (hl : l.length < 4611686018427387904) :
    Calls Try.prog 35 #[v] w fun e w' => e = .returned (.tuple #[]) ∧ w'.ownsRow base 3 1 v (sorted l).length (nums .i64 (sorted l)) ∧ w.grownBy w' v.ownBlock := by
  have hsl : (sorted l).length = l.length := by simp
  rcases ho.2 with ⟨rfl, hn⟩ | ⟨g, cap, cur, rfl, hg, hh, hc, hm, hs, ht⟩
  · refine (Go.Proofs.Any.slices_Sort_int_none Try.lays189 none 0 w).mono ?_
    rintro e w' ⟨rfl, rfl⟩
    obtain rfl : l = [] := List.length_eq_zero_iff.1 hn
    exact ⟨rfl, ⟨by simp [nums], .inl ⟨rfl, by simp⟩⟩, World.grownBy.refl _ _⟩
  · rw [Nat.mul_one] at ht
    refine (Try.slices_Sort_int g 0 cap l w (holds_of_blockI hh (by simpa [nums] using ht)) (Array.getElem?_eq_some_iff.1 hh).1 hl).mono ?_
    rintro e w' ⟨rfl, n, os, rfl⟩
    refine ⟨rfl, ?_, grownBy_sortedI _⟩
    have := ownsRow_sortedI (n := n) (os := os) (ss := l) (ts := sorted l) hsl hg hh hc hm hs
    rw [hsl]
    simpa [nums] using this
def shrink (v : Value) (m : Nat) : Value := match v with
  | .slice a _ c => .slice a m c
  | v => v
theorem compact_own (base : Nat) (v : Value) (l : List Int) (w : World) (ho : w.ownsRow base 3 1 v l.length (nums .i64 l)) (hb : base ≤ w.heap.size) (hl : l.length ≤ 9223372036854775807) :
    Calls Try.prog 36 #[v] w fun e w' => e = .returned (shrink v (Lib.compact l).length) ∧ w'.ownsRow base 3 1 (shrink v (Lib.compact l).length) (Lib.compact l).length (nums .i64 (Lib.compact l)) ∧ w.grownBy w' v.ownBlock := by
  rcases ho.2 with ⟨rfl, hn⟩ | ⟨g, cap, cur, rfl, hg, hh, hc, hm, hs, ht⟩
  · refine (Try.slices_Compact_int_empty none 0 w).mono ?_
    rintro e w' ⟨rfl, rfl⟩
    obtain rfl : l = [] := List.length_eq_zero_iff.1 hn
    exact ⟨rfl, ⟨rfl, .inl ⟨rfl, rfl⟩⟩, World.grownBy.refl _ _⟩
  · rw [Nat.mul_one] at ht
    refine (Try.slices_Compact_int g 0 cap l w (holds_of_blockI hh (by simpa [nums] using ht)) hl hc).mono ?_
    rintro e w' ⟨rfl, q, rfl⟩
    have hcl := Lib.compact_length_le l
    have hts : (Lib.compact l ++ List.replicate (l.length - (Lib.compact l).length) 0).length = l.length := by simp; omega
    have hw := ownsRow_sortedI (n := q) (os := #[]) (ss := l) (ts := Lib.compact l ++ List.replicate (l.length - (Lib.compact l).length) 0) hts hg hh hc hm hs
    have hgb := grownBy_sortedI (w := w) (g := g) (n := q) (os := #[]) (Lib.compact l ++ List.replicate (l.length - (Lib.compact l).length) (0 : Int)).toArray
    rw [grow_empty] at hw hgb
    refine ⟨rfl, ?_, hgb⟩
    rcases hw.2 with ⟨h, _⟩ | ⟨g', cap', cur', h, hg', hh', hc', hm', hs', ht'⟩
    · cases h
    · cases h
      refine ⟨by simp [nums], .inr ⟨g, cap, cur', rfl, hg, hh', by omega, hm, hs', ?_⟩⟩
      rw [Nat.mul_one] at ht' ⊢
      have := congrArg (List.take (Lib.compact l).length) ht'
      rw [List.take_take, Nat.min_eq_left hcl] at this
      rw [this, List.map_append, List.take_append_of_le_length (by simp), List.take_of_length_le (by simp)]
      rfl
end Go.Proofs.Ytngckofkbkhomaa
