/- slices.Sorted(slices.Values(keep)) and slices.Compact at []int; slices.DeleteFunc where nothing is to be deleted. -/
import Derived.Test.YtmonlhgfgnfbdaaHDkMeth
import Derived.Test.YtmonlhgfgnfbdaaHDkSeq
import Derived.Test.YtmonlhgfgnfbdaaHShelf
import Derived.Shelf.Slices.In.SortNone
import Derived.Sort.OwnSortedInts
import Derived.Lib.RowBridge
namespace Go.Proofs.Ytmonlhgfgnfbdaa
open Go.RowKit Go.Lib Go.Sort Go.Proofs.YtmonlhgfgnfbdaaW.PrintWords Go.Proofs.YtmonlhgfgnfbdaaW.PrintLast Go.Proofs.YtmonlhgfgnfbdaaW.PrintMore
set_option linter.unusedVariables false
set_option linter.unusedSimpArgs false
abbrev sorted (l : List Int) : List Int := l.mergeSort fun x y => decide (x ≤ y)
theorem sort_own (base : Nat) (v : Value) (l : List Int) (w : World) (ho : w.ownsRow base 3 1 v l.length (nums .i64 l)) (hb : base ≤ w.heap.size) (hl : l.length < 4611686018427387904) :
    Calls Try.prog 35 #[v] w fun e w' => e = .returned (.tuple #[]) ∧ w'.ownsRow base 3 1 v (sorted l).length (nums .i64 (sorted l)) ∧ w.grownBy w' v.ownBlock := by
  have hsl : (sorted l).length = l.length := by simp
  rcases ho.2 with ⟨rfl, hn⟩ | ⟨g, cap, cur, rfl, hg, hh, hc, hm, hs, ht⟩
  · refine (Go.Proofs.Any.slices_Sort_int_none Try.lays189 none 0 w).mono ?_
    rintro e w' ⟨rfl, rfl⟩
    obtain rfl : l = [] := List.length_eq_zero_iff.1 hn
    exact ⟨rfl, ⟨by simp [nums], .inl ⟨rfl, by simp⟩⟩, World.grownBy.refl _ _⟩
  · rw [Nat.mul_one] at ht
    refine (Try.slices_Sort_int g 0 cap l w (holds_of_blockI hh (by simpa [nums] using ht)) (Array.getElem?_eq_some_iff.1 hh).1 hl).mono ?_
    rintro e w' ⟨rfl, n, os, rfl⟩
    refine ⟨rfl, ?_, grownBy_sortedI _⟩
    have := ownsRow_sortedI (n := n) (os := os) (ss := l) (ts := sorted l) hsl hg hh hc hm hs
    rw [hsl]
    simpa [nums] using this
def shrink (v : Value) (m : Nat) : Value := match v with
  | .slice a _ c => .slice a m c
  | v => v
theorem compact_own (base : Nat) (v : Value) (l : List Int) (w : World) (ho : w.ownsRow base 3 1 v l.length (nums .i64 l)) (hb : base ≤ w.heap.size) (hl : l.length ≤ 9223372036854775807) :
    Calls Try.prog 29 #[v] w fun e w' => e = .returned (shrink v (Lib.compact l).length) ∧ w'.ownsRow base 3 1 (shrink v (Lib.compact l).length) (Lib.compact l).length (nums .i64 (Lib.compact l)) ∧ w.grownBy w' v.ownBlock := by
  rcases ho.2 with ⟨rfl, hn⟩ | ⟨g, cap, cur, rfl, hg, hh, hc, hm, hs, ht⟩
  · refine (Try.slices_Compact_int_empty none 0 w).mono ?_
    rintro e w' ⟨rfl, rfl⟩
    obtain rfl : l = [] := List.length_eq_zero_iff.1 hn
    exact ⟨rfl, ⟨rfl, .inl ⟨rfl, rfl⟩⟩, World.grownBy.refl _ _⟩
  · rw [Nat.mul_one] at ht
    refine (Try.slices_Compact_int g 0 cap l w (holds_of_blockI hh (by simpa [nums] using ht)) hl hc).mono ?_
    rintro e w' ⟨rfl, q, rfl⟩
    have hcl := Lib.compact_length_le l
    have hts : (Lib.compact l ++ List.replicate (l.length - (Lib.compact l).length) 0).length = l.length := by simp; omega
    have hw := ownsRow_sortedI (n := q) (os := #[]) (ss := l) (ts := Lib.compact l ++ List.replicate (l.length - (Lib.compact l).length) 0) hts hg hh hc hm hs
    have hgb := grownBy_sortedI (w := w) (g := g) (n := q) (os := #[]) (Lib.compact l ++ List.replicate (l.length - (Lib.compact l).length) (0 : Int)).toArray
    rw [grow_empty] at hw hgb
    refine ⟨rfl, ?_, hgb⟩
    rcases hw.2 with ⟨h, _⟩ | ⟨g', cap', cur', h, hg', hh', hc', hm', hs', ht'⟩
    · cases h
    · cases h
      refine ⟨by simp [nums], .inr ⟨g, cap, cur', rfl, hg, hh', by omega, hm, hs', ?_⟩⟩
      rw [Nat.mul_one] at ht' ⊢
      have := congrArg (List.take (Lib.compact l).length) ht'
      rw [List.take_take, Nat.min_eq_left hcl] at this
      rw [this, List.map_append, List.take_append_of_le_length (by simp), List.take_of_length_le (by simp)]
      rfl
set_option maxHeartbeats 8000000
set_option maxRecDepth 100000
theorem values_calls (a : Option Addr) (len cap : Nat) (w : World) :
    Calls Try.prog 31 #[.slice a len cap] w fun e w' => e = .returned (.func (.func 36) #[] #[.pointer (some ⟨w.heap.size, 0, none⟩)]) ∧ w' = w.alloc (.cells #[.slice a len cap] 32) := by
  go_enter Try.func31, Try.ntmps31
  go_wp2
  go_returns
  exact ⟨rfl, rfl⟩
theorem collect_calls (Bs : Nat) (sv : Value) (zs : List Int) (hreach : zs.length ≤ 1000000) (w : World) (hBs : Bs < w.heap.size) (hc : w.cell? ⟨Bs, 0, none⟩ = some sv) (hI : IntsB w.heap.size w sv zs) :
    Calls Try.prog 34 #[.func (.func 36) #[] #[.pointer (some ⟨Bs, 0, none⟩)]] w fun e W' => ∃ v, e = .returned v ∧ W'.ownsRow w.heap.size 3 1 v zs.length (nums .i64 zs) ∧ Below w.heap.size w W' := by
  have hA := callsIn_wide.1 (appendSeq_in Fence.wide 3 trivial trivial rfl (by omega) Bs sv zs hreach w hBs hc hI)
  clear hc hI
  go_enter Try.func34, Try.ntmps34
  go_wp2_with (first | (go_at_call 38; refine hA.mono ?_; rintro e W' ⟨v, rfl, h1, h2⟩))
  go_returns
  exact ⟨v, rfl, h1, h2⟩
theorem sorted_calls (Bs : Nat) (sv : Value) (zs : List Int) (hreach : zs.length ≤ 1000000) (w : World) (hBs : Bs < w.heap.size) (hc : w.cell? ⟨Bs, 0, none⟩ = some sv) (hI : IntsB w.heap.size w sv zs) :
    Calls Try.prog 30 #[.func (.func 36) #[] #[.pointer (some ⟨Bs, 0, none⟩)]] w fun e W' => ∃ v, e = .returned v ∧ W'.ownsRow w.heap.size 3 1 v (sorted zs).length (nums .i64 (sorted zs)) ∧ Below w.heap.size w W' := by
  have hA := collect_calls Bs sv zs hreach w hBs hc hI
  clear hc hI
  go_enter Try.func30, Try.ntmps30
  go_wp2_with (first | (go_at_call 34; refine hA.mono ?_; rintro e W' ⟨v, rfl, h1, h2⟩; have H1 := Aside0.mk (And.intro h1 h2); clear h1 h2) | (go_at_call 35; refine (sort_own w.heap.size v zs _ H1.out.1 H1.out.2.size (by omega)).mono ?_; rintro e W2 ⟨rfl, h3, h4⟩; have H3 := Aside0.mk (And.intro h3 h4); clear h3 h4))
  go_returns
  exact ⟨v, rfl, H3.out.1, H1.out.2.grown H3.out.2 H1.out.2.size (fun k hk => (H1.out.1.lt k hk).1)⟩
/-- a row of numbers of one's own, read -/
theorem own_reads {W : World} {base : Nat} {v : Value} {xs : List Int} (h : W.ownsRow base 3 1 v xs.length (nums .i64 xs)) : ∃ A c, v = .slice A xs.length c ∧ xs.length ≤ c ∧ ∀ i (hi : i < xs.length), ∃ g, A = some ⟨g, 0, none⟩ ∧ W.cell? ⟨g, i, none⟩ = some (.int .i64 xs[i]) := by
  rcases h.2 with ⟨rfl, hn⟩ | ⟨g, cap, cur, rfl, hb, hg, hc, hm, hs, ht⟩
  · exact ⟨none, 0, by rw [hn], by omega, fun i hi => absurd hi (by omega)⟩
  · refine ⟨_, cap, rfl, hc, fun i hi => ⟨g, rfl, ?_⟩⟩
    rw [cell_of_heap hg]
    have h1 := congrArg (fun l => l[i]?) ht
    simp only [Nat.mul_one, List.getElem?_take, hi, if_true] at h1
    simpa [nums, hi] using h1
section
variable {W : World} {d bx np : Nat} {A : Option Addr} {c : Nat}
/-- the test of Crash: is number x no pending write? -/
theorem crash1_calls (x : Int) (hbx : W.cell? ⟨bx, 0, none⟩ = some (.pointer (some ⟨d, 0, none⟩))) (hpv : W.cell? ⟨d, 4, none⟩ = some (.slice A np c)) (h0 : 0 ≤ x) (h1 : x < np) :
    Calls Try.prog 33 #[.int .i64 x, .pointer (some ⟨bx, 0, none⟩)] W fun e W' => e = .returned (.bool false) ∧ W' = W := by
  have hu := Try.underlying54
  have d1 : decide (x < 0) = false := decide_eq_false (by omega)
  have d2 : decide (x ≥ (np : Int)) = false := decide_eq_false (by omega)
  go_enter Try.func33, Try.ntmps33
  go_wp2
  go_returns
  exact ⟨rfl, rfl⟩
theorem index_none (v : Value) (xs : List Int) {base : Nat} (h : W.ownsRow base 3 1 v xs.length (nums .i64 xs)) (hx : ∀ x ∈ xs, 0 ≤ x ∧ x < np) (hbx : W.cell? ⟨bx, 0, none⟩ = some (.pointer (some ⟨d, 0, none⟩))) (hpv : W.cell? ⟨d, 4, none⟩ = some (.slice A np c)) (hm : xs.length ≤ 1000000) :
    Calls Try.prog 37 #[v, .func (.func 33) #[] #[.pointer (some ⟨bx, 0, none⟩)]] W fun e W' => e = .returned (.int .i64 (-1)) ∧ W' = W := by
  obtain ⟨E, cap, rfl, hc, hr⟩ := own_reads h
  have HR := Aside0.mk hr
  clear hr h
  go_enter Try.func37, Try.ntmps37
  go_wp2
  go_loopg [8] (xs.length + 1) (fun gk v8 w' => ∃ i : Nat, v8 = .int .i64 i ∧ Aside0 (i ≤ xs.length ∧ gk = xs.length - i + 1) ∧ w' = W)
  case atStart => exact ⟨0, rfl, ⟨by omega, by omega⟩, rfl⟩
  case round =>
    obtain ⟨i, rfl, HI, rfl⟩ := hrel
    by_cases hi : i < xs.length
    · have hd : decide ((i : Int) < (xs.length : Int)) = true := decide_eq_true (by omega)
      obtain ⟨g, rfl, hcl⟩ := HR.out i hi
      obtain ⟨q0, q1⟩ := hx xs[i] (List.getElem_mem hi)
      go_wp2_with (first | (go_at_call 33; refine (crash1_calls xs[i] hbx hpv q0 q1).mono ?_; rintro e W' ⟨rfl, hW⟩; subst hW))
      go_roundg (xs.length - i)
      case rel => exact ⟨i + 1, by simp <;> (unfold wrap64; omega), ⟨by omega, by omega⟩, rfl⟩
      case measure => have := HI.out; omega
    · have hd : decide ((i : Int) < (xs.length : Int)) = false := decide_eq_false (by omega)
      go_wp2
      go_returns
      exact ⟨rfl, rfl⟩
theorem delete_none (v : Value) (xs : List Int) {base : Nat} (h : W.ownsRow base 3 1 v xs.length (nums .i64 xs)) (hx : ∀ x ∈ xs, 0 ≤ x ∧ x < np) (hbx : W.cell? ⟨bx, 0, none⟩ = some (.pointer (some ⟨d, 0, none⟩))) (hpv : W.cell? ⟨d, 4, none⟩ = some (.slice A np c)) (hm : xs.length ≤ 1000000) :
    Calls Try.prog 32 #[v, .func (.func 33) #[] #[.pointer (some ⟨bx, 0, none⟩)]] W fun e W' => e = .returned v ∧ W' = W := by
  have hI := index_none v xs h hx hbx hpv hm
  clear h hbx hpv hx
  go_enter Try.func32, Try.ntmps32
  go_wp2_with (first | (go_at_call 37; refine hI.mono ?_; rintro e W' ⟨rfl, hW⟩; subst hW))
  go_returns
  exact ⟨rfl, rfl⟩
end
end Go.Proofs.Ytmonlhgfgnfbdaa
