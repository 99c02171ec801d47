/- All pending writes applied; a disk that survives whole; a row of the numbers up to n. -/
import Derived.Test.YtmonlhgfgnfbdaaHDkLoop
namespace Go.Proofs.Ytmonlhgfgnfbdaa
open Go.RowKit Go.Lib Go.Proofs.YtmonlhgfgnfbdaaW.PrintWords Go.Proofs.YtmonlhgfgnfbdaaW.PrintLast Go.Proofs.YtmonlhgfgnfbdaaW.PrintMore
set_option linter.unusedVariables false
set_option linter.unusedSimpArgs false
structure DS (w W : World) (d g1 g2 : Nat) (pv : Value) (s : DD) : Prop where
  dk : Dk W w.heap.size d g1 g2 pv s
  bel : Below w.heap.size w W
section
variable {w W W' : World} {d g1 g2 : Nat} {pv pv' : Value} {s s' : DD}
theorem DS.below (h : DS w W d g1 g2 pv s) (hb : Below W.heap.size W W') : DS w W' d g1 g2 pv s := ⟨h.dk.below hb, h.bel.trans (hb.mono h.bel.size)⟩
theorem DS.step (h : DS w W d g1 g2 pv s) (hs : Step W w.heap.size d g1 g2 pv s' W' pv') : DS w W' d g1 g2 pv' s' := ⟨hs.dk, h.bel.trans hs.bel⟩
theorem DS.boxStep (h : DS w W d g1 g2 pv s) (hs : Step W w.heap.size d g1 g2 pv s' W' pv') {nb : Nat} {cs : Array Value} (hx : W.heap[nb]? = some (.cells cs 42 (0, 0))) : W'.heap[nb]? = some (.cells cs 42 (0, 0)) := by
  refine (hs.kept.2 nb (heap_lt hx) ?_).trans hx
  rintro ((e | e | e) | e)
  · exact type_ne hx h.dk.h0.hd (by decide) e
  · exact type_ne hx h.dk.h0.h1 (by decide) e
  · exact type_ne hx h.dk.h0.h2 (by decide) e
  · exact own_ne h.dk.hp hx (by decide) e
/-- a disk beside a row of numbers that grows -/
theorem DS.grown (h : DS w W d g1 g2 pv s) {v : Value} {xs : List Value} {n : Nat} (ho : W.ownsRow w.heap.size 3 1 v n xs) (hg : W.grownBy W' v.ownBlock) : DS w W' d g1 g2 pv s := by
  refine ⟨h.dk.kept (Kept.of_grown hg (Kept.refl W (fun k => v.ownBlock = some k)) (fun k hk => .inl hk)) ?_, h.bel.grown hg h.bel.size (fun k hk => (ho.lt k hk).1)⟩
  rintro k ((rfl | rfl | rfl) | hk) hown
  · exact own_ne ho h.dk.h0.hd (by decide) hown
  · exact own_ne ho h.dk.h0.h1 (by decide) hown
  · exact own_ne ho h.dk.h0.h2 (by decide) hown
  · rcases h.dk.hp.2 with ⟨rfl, _⟩ | ⟨g, cap, cur, rfl, _, hgb, _⟩
    · simp [Value.ownBlock] at hk
    · simp only [Value.ownBlock, Option.some.injEq] at hk
      subst hk
      exact own_ne ho hgb (by decide) hown
end
def applyAll (p : List Wr) (b : List UInt8) : List UInt8 := p.foldl (fun b x => over b x.off (strL x.s)) b
theorem applyAll_snoc (p : List Wr) (x : Wr) (b : List UInt8) : applyAll (p ++ [x]) b = over (applyAll p b) x.off (strL x.s) := by simp [applyAll]
def allOf (n : Nat) : List Int := (List.range n).map (fun j : Nat => (j : Int))
theorem allOf_length (n : Nat) : (allOf n).length = n := by simp [allOf]
theorem allOf_succ (n : Nat) : allOf (n + 1) = allOf n ++ [(n : Int)] := by simp [allOf, List.range_succ]
theorem allOf_asc (n : Nat) : (allOf n).Pairwise (· < ·) := by
  unfold allOf
  rw [List.pairwise_map]
  exact List.pairwise_lt_range.imp (fun h => by omega)
theorem allOf_mem {n : Nat} : ∀ x ∈ allOf n, 0 ≤ x ∧ x < n := by
  intro x hx
  obtain ⟨j, hj, rfl⟩ := List.mem_map.1 hx
  have := List.mem_range.1 hj
  omega
theorem durAt_all (p : List Wr) (b : List UInt8) : ∀ k, k ≤ p.length → durAt p (-1) (allOf p.length) b k = applyAll (p.take k) b
  | 0, _ => by simp [durAt, applyAll]
  | k + 1, hk => by
    have ih := durAt_all p b k (by omega)
    have h1 : (allOf p.length).getD k 0 = (k : Int) := by
      rw [List.getD_eq_getElem?_getD, List.getElem?_eq_getElem (by rw [allOf_length]; omega)]
      simp [allOf]
    have h2 : wrAt p (k : Int) = p[k] := by
      unfold wrAt
      rw [List.getD_eq_getElem?_getD, Int.toNat_natCast, List.getElem?_eq_getElem (by omega)]
      rfl
    have h3 : ∀ q t, cutW (-1) q t = t := by
      intro q t
      unfold cutW
      rw [show decide ((0 : Int) ≤ -1) = false from rfl, Bool.and_false]
      rfl
    have h4 : p.take (k + 1) = p.take k ++ [p[k]] := by
      rw [List.take_add_one, List.getElem?_eq_getElem (by omega)]
      rfl
    unfold durAt
    rw [h1, h2, h3, ih, h4, applyAll_snoc]
/-- a crash that all writes survive -/
theorem crash_all {W : World} {base d g1 g2 : Nat} {pv v : Value} {s : DD} (h : Dk W base d g1 g2 pv s) (hfit : ∀ x ∈ s.pend, x.off + x.s.size ≤ s.dur.length) (hp : s.pend.length ≤ 1000) (ho : W.ownsRow base 3 1 v s.pend.length (nums .i64 (allOf s.pend.length))) :
    Calls Try.prog 21 #[.pointer (some ⟨d, 0, none⟩), v, .int .i64 (-1)] W fun e W' => e = .returned (.int .i64 0) ∧ ∃ pv', Step W base d g1 g2 pv ⟨false, 0, applyAll s.pend s.dur, applyAll s.pend s.dur, []⟩ W' pv' := by
  have hl := allOf_length s.pend.length
  have hI : ∃ A c, v = .slice A (allOf s.pend.length).length c ∧ IntsB W.heap.size W (.slice A (allOf s.pend.length).length c) (allOf s.pend.length) := by
    rw [hl]
    rcases ho.2 with ⟨rfl, hn⟩ | ⟨g, cap, cur, rfl, hb, hg, hc, hm, hs, ht⟩
    · rw [hn]
      exact ⟨none, 0, rfl, .inl ⟨rfl, rfl⟩⟩
    · refine ⟨_, cap, rfl, .inr ⟨g, 0, cap, by rw [hl], heap_lt hg, fun j hj => ?_⟩⟩
      rw [Nat.zero_add, cell_of_heap hg]
      have h1 := congrArg (fun l => l[j]?) ht
      rw [hl] at hj
      simp only [Nat.mul_one, List.getElem?_take, hj, if_true] at h1
      rw [← Array.getElem?_toList, h1]
      simp [nums, List.getElem?_eq_getElem, hl, hj]
  obtain ⟨A, c, rfl, hA⟩ := hI
  have hc := crash_calls h hfit A c (allOf s.pend.length) hA allOf_mem (by rw [hl]; omega) (-1)
  have e : crashS s (allOf s.pend.length) (-1) = ⟨false, 0, applyAll s.pend s.dur, applyAll s.pend s.dur, []⟩ := by
    unfold crashS crashDur
    rw [order_asc (allOf_asc _), hl, durAt_all _ _ _ (Nat.le_refl _), List.take_length]
  rw [e] at hc
  exact hc
end Go.Proofs.Ytmonlhgfgnfbdaa
