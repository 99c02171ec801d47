/- What a law with a disk and a row of bytes of its own keeps from round to round; the parameters' row, read. -/
import Derived.Test.YtmonlhgfgnfbdaaHDkSane
namespace Go.Proofs.Ytmonlhgfgnfbdaa
open Go.RowKit Go.Lib Go.Proofs.YtmonlhgfgnfbdaaW.PrintWords Go.Proofs.YtmonlhgfgnfbdaaW.PrintLast Go.Proofs.YtmonlhgfgnfbdaaW.PrintMore
set_option linter.unusedVariables false
set_option linter.unusedSimpArgs false
theorem Dk.lower {W : World} {base base' d g1 g2 : Nat} {pv : Value} {s : DD} (h : Dk W base d g1 g2 pv s) (hb : base' ≤ base) : Dk W base' d g1 g2 pv s := by
  refine ⟨⟨h.h0.hd, h.h0.h1, h.h0.h2, h.h0.len, h.h0.max, Nat.le_trans hb h.h0.bd, Nat.le_trans hb h.h0.b1, Nat.le_trans hb h.h0.b2, h.h0.n12, Nat.le_trans hb h.h0.bw⟩, h.hp.1, ?_⟩
  rcases h.hp.2 with hn | ⟨g, cap, cur, e, hg, hr⟩
  · exact .inl hn
  · exact .inr ⟨g, cap, cur, e, Nat.le_trans hb hg, hr⟩
/-- a disk and a row of bytes beside it -/
structure LS (w W : World) (d g1 g2 gb : Nat) (pv : Value) (s : DD) (b : List UInt8) : Prop where
  dk : Dk W w.heap.size d g1 g2 pv s
  row : W.heap[gb]? = some (.cells (bcells b) 5 (0, 0))
  n1 : gb ≠ g1
  n2 : gb ≠ g2
  bb : w.heap.size ≤ gb
  bel : Below w.heap.size w W
section
variable {w W W' : World} {d g1 g2 gb : Nat} {pv pv' : Value} {s s' : DD} {b b' : List UInt8}
theorem LS.out_ (h : LS w W d g1 g2 gb pv s b) : ¬ DF d g1 g2 pv gb := by
  rintro ((e | e | e) | e)
  · exact type_ne h.row h.dk.h0.hd (by decide) e
  · exact h.n1 e
  · exact h.n2 e
  · exact own_ne h.dk.hp h.row (by decide) e
theorem LS.below (h : LS w W d g1 g2 gb pv s b) (hb : Below W.heap.size W W') : LS w W' d g1 g2 gb pv s b :=
  ⟨h.dk.below hb, (hb.block gb (heap_lt h.row)).trans h.row, h.n1, h.n2, h.bb, h.bel.trans (hb.mono h.bel.size)⟩
theorem LS.put (h : LS w W d g1 g2 gb pv s b) (hr : W'.heap[gb]? = some (.cells (bcells b') 5 (0, 0))) (hk : KeepBut W W' gb none) (hb : ∀ B W0, B ≤ gb → Below B W0 W → Below B W0 W') : LS w W' d g1 g2 gb pv s b' :=
  ⟨h.dk.kept ((Kept.refl W (fun k => k = gb)).of_keep hk (.inl rfl)) (fun k hF e => h.out_ (e ▸ hF)), hr, h.n1, h.n2, h.bb, hb _ _ h.bb h.bel⟩
theorem LS.step (h : LS w W d g1 g2 gb pv s b) (hs : Step W w.heap.size d g1 g2 pv s' W' pv') : LS w W' d g1 g2 gb pv' s' b :=
  ⟨hs.dk, (hs.kept.2 gb (heap_lt h.row) h.out_).trans h.row, h.n1, h.n2, h.bb, h.bel.trans hs.bel⟩
/-- a box of another type stays -/
theorem LS.boxStep (h : LS w W d g1 g2 gb pv s b) (hs : Step W w.heap.size d g1 g2 pv s' W' pv') {nb : Nat} {cs : Array Value} (hx : W.heap[nb]? = some (.cells cs 42 (0, 0))) : W'.heap[nb]? = some (.cells cs 42 (0, 0)) := by
  refine (hs.kept.2 nb (heap_lt hx) ?_).trans hx
  rintro ((e | e | e) | e)
  · exact type_ne hx h.dk.h0.hd (by decide) e
  · exact type_ne hx h.dk.h0.h1 (by decide) e
  · exact type_ne hx h.dk.h0.h2 (by decide) e
  · exact own_ne h.dk.hp hx (by decide) e
theorem LS.boxPut (h : LS w W d g1 g2 gb pv s b) (hk : KeepBut W W' gb none) {nb : Nat} {cs : Array Value} (hx : W.heap[nb]? = some (.cells cs 42 (0, 0))) : W'.heap[nb]? = some (.cells cs 42 (0, 0)) :=
  hk.blk hx (type_ne hx h.row (by decide)) (by simp)
end
/-- the parameters' row -/
def WPs (W : World) (A : Option Addr) (l : List (Int × ByteArray × Bool)) : Prop :=
  ∀ i (hi : i < l.length), Rng l[i].1 ∧ ∃ b o, A = some ⟨b, o, none⟩ ∧ W.cell? ⟨b, o + i * 3, none⟩ = some (.int .i64 l[i].1) ∧ W.cell? ⟨b, o + i * 3 + 1, none⟩ = some (.string l[i].2.1) ∧ W.cell? ⟨b, o + i * 3 + 2, none⟩ = some (.bool l[i].2.2)
theorem WPs.below {w W : World} {A : Option Addr} {l : List (Int × ByteArray × Bool)} (h : WPs w A l) (hb : Below w.heap.size w W) : WPs W A l := by
  intro i hi
  obtain ⟨hr, b, o, hA, h0, h1, h2⟩ := h i hi
  have hlt : b < w.heap.size := World.block_lt_of_cell? w _ h0
  exact ⟨hr, b, o, hA, (hb.cell (p := ⟨b, o + i * 3, none⟩) hlt).trans h0, (hb.cell (p := ⟨b, o + i * 3 + 1, none⟩) hlt).trans h1, (hb.cell (p := ⟨b, o + i * 3 + 2, none⟩) hlt).trans h2⟩
/-- a disk without trouble -/
structure Calm (s : DD) (n : Nat) (i : Nat) : Prop where
  off : s.off = false
  left : s.left = 0
  dur : s.dur.length = n
  vis : s.vis.length = n
  pend : s.pend.length ≤ i
  fit : ∀ x ∈ s.pend, x.off + x.s.size ≤ n
theorem ins_of {s : DD} {n k m : Nat} (hd : s.dur.length = n) (h : k + m ≤ n) : ins s (k : Int) (m : Int) = true := by
  simp only [ins, Bool.and_eq_true, decide_eq_true_eq, hd]
  omega
theorem Calm.write {s : DD} {n i : Nat} (h : Calm s n i) (k : Nat) (u : ByteArray) (hk : k + u.size ≤ n) :
    writeE s (k : Int) u = 0 ∧ writeS s (k : Int) u = ⟨false, 0, s.dur, over s.vis k (strL u), s.pend ++ [⟨k, u⟩]⟩ ∧ Calm (writeS s (k : Int) u) n (i + 1) := by
  have hi := ins_of (s := s) h.dur hk
  have hS : writeS s (k : Int) u = ⟨false, 0, s.dur, over s.vis k (strL u), s.pend ++ [⟨k, u⟩]⟩ := by
    unfold writeS
    rw [h.off, hi, h.left]
    rfl
  refine ⟨by unfold writeE; rw [h.off, hi]; rfl, hS, ?_⟩
  rw [hS]
  refine ⟨rfl, rfl, h.dur, by rw [over_length (by rw [strL_length, h.vis]; exact hk)]; exact h.vis, by rw [List.length_append]; have := h.pend; simp only [List.length_cons, List.length_nil]; omega, ?_⟩
  intro x hx
  rcases List.mem_append.1 hx with hx | hx
  · exact h.fit x hx
  · obtain rfl := List.mem_singleton.1 hx
    exact hk
theorem Calm.sync {s : DD} {n i : Nat} (h : Calm s n i) : syncE s = 0 ∧ syncS s = ⟨false, 0, s.vis, s.vis, []⟩ ∧ Calm (syncS s) n i := by
  have hS : syncS s = ⟨false, 0, s.vis, s.vis, []⟩ := by
    unfold syncS
    rw [h.off, h.left]
    rfl
  refine ⟨by unfold syncE; rw [h.off]; rfl, hS, ?_⟩
  rw [hS]
  exact ⟨rfl, rfl, h.vis, h.vis, Nat.zero_le _, fun x hx => by cases hx⟩
theorem Calm.read {s : DD} {n i : Nat} (h : Calm s n i) : readE s 0 (n : Int) = 0 ∧ readS s 0 (n : Int) = strOf s.vis := by
  have hi := ins_of (s := s) (n := n) (k := 0) (m := n) h.dur (by omega)
  rw [Int.natCast_zero] at hi
  refine ⟨by unfold readE; rw [h.off, hi]; rfl, ?_⟩
  unfold readS
  rw [h.off, hi]
  simp only [Bool.false_eq_true, if_false, if_true, Int.toNat_zero, List.drop_zero, Int.toNat_natCast]
  rw [List.take_of_length_le (by rw [h.vis]; exact Nat.le_refl _)]
theorem Calm.new (n : Nat) : Calm ⟨false, 0, List.replicate n 0, List.replicate n 0, []⟩ n 0 := ⟨rfl, rfl, by simp, by simp, Nat.le_refl _, fun x hx => by cases hx⟩
theorem Calm.settled {s : DD} {n i : Nat} (h : Calm s n i) : Calm ⟨false, 0, s.dur, s.dur, []⟩ n 0 := ⟨rfl, rfl, h.dur, h.dur, Nat.le_refl _, fun x hx => by cases hx⟩
theorem crash_empty {W : World} {base d g1 g2 : Nat} {pv : Value} {s : DD} {n i : Nat} (h : Dk W base d g1 g2 pv s) (hc : Calm s n i) (torn : Int) :
    Calls Try.prog 21 #[.pointer (some ⟨d, 0, none⟩), .slice none 0 0, .int .i64 torn] W fun e W' => e = .returned (.int .i64 0) ∧ ∃ pv', Step W base d g1 g2 pv ⟨false, 0, s.dur, s.dur, []⟩ W' pv' := by
  have hh := crash_calls h (fun x hx => by rw [hc.dur]; exact hc.fit x hx) none 0 [] (.inl ⟨rfl, rfl⟩) (fun x hx => by cases hx) (Nat.zero_le _) torn
  have e : crashS s [] torn = ⟨false, 0, s.dur, s.dur, []⟩ := by
    have ho : orderOf [] = [] := order_asc (by simp)
    unfold crashS crashDur
    rw [ho]
    rfl
  rw [e] at hh
  exact hh
end Go.Proofs.Ytmonlhgfgnfbdaa
