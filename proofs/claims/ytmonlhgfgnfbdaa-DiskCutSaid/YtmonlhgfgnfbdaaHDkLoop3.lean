/- A disk whose power is to be cut after m writes. -/
import Derived.Test.YtmonlhgfgnfbdaaHDkLoop2
namespace Go.Proofs.Ytmonlhgfgnfbdaa
open Go.RowKit Go.Lib Go.Proofs.YtmonlhgfgnfbdaaW.PrintWords Go.Proofs.YtmonlhgfgnfbdaaW.PrintLast Go.Proofs.YtmonlhgfgnfbdaaW.PrintMore
set_option linter.unusedVariables false
set_option linter.unusedSimpArgs false
/-- after q writes, the power to be cut after m -/
structure Cutting (s : DD) (n m q : Nat) : Prop where
  off : s.off = decide (m ≤ q)
  left : s.left = m - q
  dur : s.dur.length = n
  vis : s.vis.length = n
  pend : s.pend.length = q
  fit : ∀ x ∈ s.pend, x.off + x.s.size ≤ n
  all : s.vis = applyAll s.pend s.dur
  le : q ≤ m
theorem Cutting.on {s : DD} {n m q : Nat} (h : Cutting s n m q) (hq : q < m) (k : Nat) (u : ByteArray) (hk : k + u.size ≤ n) :
    writeE s (k : Int) u = 0 ∧ Cutting (writeS s (k : Int) u) n m (q + 1) ∧ (writeS s (k : Int) u).vis = over s.vis k (strL u) := by
  have hi := ins_of (s := s) h.dur hk
  have ho : s.off = false := by rw [h.off]; exact decide_eq_false (by omega)
  have hS : writeS s (k : Int) u = ⟨usedOff false (m - q), usedLeft (m - q), s.dur, over s.vis k (strL u), s.pend ++ [⟨k, u⟩]⟩ := by
    unfold writeS
    rw [ho, hi, h.left]
    rfl
  refine ⟨by unfold writeE; rw [ho, hi]; rfl, ?_, by rw [hS]⟩
  rw [hS]
  refine ⟨?_, ?_, h.dur, by rw [over_length (by rw [strL_length, h.vis]; exact hk)]; exact h.vis, by rw [List.length_append, h.pend]; rfl, ?_, by dsimp only; rw [applyAll_snoc, ← h.all], by omega⟩
  · unfold usedOff
    dsimp only
    rw [if_neg (by omega)]
    exact decide_eq_decide.2 (by omega)
  · unfold usedLeft
    dsimp only
    omega
  · intro x hx
    rcases List.mem_append.1 hx with hx | hx
    · exact h.fit x hx
    · obtain rfl := List.mem_singleton.1 hx
      exact hk
theorem Cutting.stopped {s : DD} {n m : Nat} (h : Cutting s n m m) (o : Int) (u : ByteArray) : writeE s o u = 231 ∧ writeS s o u = s := by
  have ho : s.off = true := by rw [h.off]; exact decide_eq_true (Nat.le_refl _)
  exact ⟨by unfold writeE; rw [ho]; rfl, by unfold writeS; rw [ho]; rfl⟩
theorem cut2 (n m : Nat) : cutS (cutS ⟨false, 0, List.replicate n 0, List.replicate n 0, []⟩ ((m + 5 : Nat) : Int)) (m : Int) = ⟨(m : Int) == 0, m, List.replicate n 0, List.replicate n 0, []⟩ ∧
    cutE ⟨false, 0, List.replicate n 0, List.replicate n 0, []⟩ ((m + 5 : Nat) : Int) = 0 ∧ cutE (cutS ⟨false, 0, List.replicate n 0, List.replicate n 0, []⟩ ((m + 5 : Nat) : Int)) (m : Int) = 0 := by
  have e1 : cutS ⟨false, 0, List.replicate n 0, List.replicate n 0, []⟩ ((m + 5 : Nat) : Int) = ⟨false, m + 5, List.replicate n 0, List.replicate n 0, []⟩ := by
    unfold cutS
    have hb : (((m + 5 : Nat) : Int) == 0) = false := by
      rw [beq_eq_false_iff_ne]
      omega
    simp only [Bool.false_eq_true, if_false]
    rw [if_neg (by omega), hb, Int.toNat_natCast]
  rw [e1]
  refine ⟨?_, ?_, ?_⟩
  · unfold cutS
    simp only [Bool.false_eq_true, if_false]
    rw [if_neg (by omega), Int.toNat_natCast]
  · unfold cutE
    simp only [Bool.false_eq_true, if_false]
    rw [if_neg (by omega)]
  · unfold cutE
    simp only [Bool.false_eq_true, if_false]
    rw [if_neg (by omega)]
theorem Cutting.start (n m : Nat) : Cutting ⟨(m : Int) == 0, m, List.replicate n 0, List.replicate n 0, []⟩ n m 0 := by
  refine ⟨?_, rfl, by simp, by simp, rfl, (fun x hx => by cases hx), rfl, Nat.zero_le _⟩
  dsimp only
  rw [Bool.eq_iff_iff, beq_iff_eq, decide_eq_true_iff]
  omega
theorem Cutting.settled {s : DD} {n m q : Nat} (h : Cutting s n m q) : Calm ⟨false, 0, applyAll s.pend s.dur, applyAll s.pend s.dur, []⟩ n 0 := ⟨rfl, rfl, by rw [← h.all]; exact h.vis, by rw [← h.all]; exact h.vis, Nat.le_refl _, fun x hx => by cases hx⟩
section
variable {w W W' : World} {d g1 g2 gb : Nat} {pv pv' v : Value} {s s' : DD} {b : List UInt8} {xs : List Value} {n : Nat}
/-- a row of numbers beside the disk -/
theorem LS.rowBelow (ho : W.ownsRow w.heap.size 3 1 v n xs) (hb : Below W.heap.size W W') : W'.ownsRow w.heap.size 3 1 v n xs := own_kept ho (Kept.of_below hb (fun _ => False)) (fun _ _ hf => hf)
theorem LS.rowStep (h : LS w W d g1 g2 gb pv s b) (hs : Step W w.heap.size d g1 g2 pv s' W' pv') (ho : W.ownsRow w.heap.size 3 1 v n xs) : W'.ownsRow w.heap.size 3 1 v n xs := by
  refine own_kept ho hs.kept ?_
  rintro k hown ((rfl | rfl | rfl) | hk)
  · exact own_ne ho h.dk.h0.hd (by decide) hown
  · exact own_ne ho h.dk.h0.h1 (by decide) hown
  · exact own_ne ho h.dk.h0.h2 (by decide) hown
  · rcases h.dk.hp.2 with ⟨rfl, _⟩ | ⟨g, cap, cur, rfl, _, hgb, _⟩
    · simp [Value.ownBlock] at hk
    · simp only [Value.ownBlock, Option.some.injEq] at hk
      subst hk
      exact own_ne ho hgb (by decide) hown
theorem LS.rowPut (h : LS w W d g1 g2 gb pv s b) (hk : KeepBut W W' gb none) (ho : W.ownsRow w.heap.size 3 1 v n xs) : W'.ownsRow w.heap.size 3 1 v n xs :=
  own_kept ho ((Kept.refl W (fun k => k = gb)).of_keep hk (.inl rfl)) (fun k hown e => by
    subst e
    exact own_ne ho h.row (by decide) hown)
theorem LS.grown (h : LS w W d g1 g2 gb pv s b) (ho : W.ownsRow w.heap.size 3 1 v n xs) (hg : W.grownBy W' v.ownBlock) : LS w W' d g1 g2 gb pv s b := by
  have hd := (DS.mk h.dk h.bel).grown ho hg
  exact ⟨hd.dk, (hg.block gb (heap_lt h.row) (fun e => own_ne ho h.row (by decide) e.symm)).trans h.row, h.n1, h.n2, h.bb, hd.bel⟩
end
end Go.Proofs.Ytmonlhgfgnfbdaa
