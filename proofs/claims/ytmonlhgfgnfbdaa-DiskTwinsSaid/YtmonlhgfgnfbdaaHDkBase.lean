/- A disk in memory: its cells, and the small functions that read it. -/
import Derived.Test.YtmonlhgfgnfbdaaProg
import Derived.WalkKit
import Derived.WalkMore
import Derived.Outline
import Derived.Deep.LoopGhost
import Derived.Deep.QuietTactic
import Derived.BigQuiet
import Derived.Laws.CopyRow
import Derived.Laws.BytesString
import Derived.Handy
import Derived.Test.YtmonlhgfgnfbdaaWWords
import Derived.Test.YtmonlhgfgnfbdaaWLast
import Derived.Test.YtmonlhgfgnfbdaaWMore
import Derived.Test.YtmonlhgfgnfbdaaWKept
namespace Go.Proofs.Ytmonlhgfgnfbdaa
open Go.RowKit Go.Proofs.YtmonlhgfgnfbdaaW.PrintWords Go.Proofs.YtmonlhgfgnfbdaaW.PrintLast Go.Proofs.YtmonlhgfgnfbdaaW.PrintMore
set_option linter.unusedVariables false
set_option linter.unusedSimpArgs false
/-- the cells of a row of bytes -/
def bcells (bs : List UInt8) : Array Value := (bs.map fun b => Value.int .u8 b.toNat).toArray
theorem bcells_size (bs : List UInt8) : (bcells bs).size = bs.length := by simp [bcells]
/-- a write -/
structure Wr where
  off : Nat
  s : ByteArray
/-- the cells of the pending writes -/
def pcells (p : List Wr) : List Value := p.flatMap fun x => [.int .i64 x.off, .string x.s]
theorem pcells_length (p : List Wr) : (pcells p).length = p.length * 2 := by
  induction p with
  | nil => rfl
  | cons x p ih => simp only [pcells, List.flatMap_cons, List.length_append, List.length_cons, List.length_nil] at ih ⊢; omega
theorem pcells_snoc (p : List Wr) (x : Wr) : pcells (p ++ [x]) = pcells p ++ [.int .i64 x.off, .string x.s] := by simp [pcells]
/-- what a disk holds -/
structure DD where
  off : Bool
  left : Nat
  dur : List UInt8
  vis : List UInt8
  pend : List Wr
/-- s laid over bs from o on -/
def over (bs : List UInt8) (o : Nat) (s : List UInt8) : List UInt8 := bs.take o ++ s ++ bs.drop (o + s.length)
theorem over_length {bs : List UInt8} {o : Nat} {s : List UInt8} (h : o + s.length ≤ bs.length) : (over bs o s).length = bs.length := by
  simp only [over, List.length_append, List.length_take, List.length_drop]
  omega
theorem over_nil (bs : List UInt8) (o : Nat) : over bs o [] = bs := by simp [over]
theorem bcells_over (bs : List UInt8) (o : Nat) (s : List UInt8) : ((bcells bs).toList.take o ++ (bcells s).toList ++ (bcells bs).toList.drop (o + s.length)).toArray = bcells (over bs o s) := by
  have e : ∀ l, (bcells l).toList = l.map fun b => Value.int .u8 b.toNat := fun l => rfl
  rw [e, e, ← List.map_take, ← List.map_drop, ← List.map_append, ← List.map_append]
  rfl
def strL (s : ByteArray) : List UInt8 := s.data.toList
theorem strL_length (s : ByteArray) : (strL s).length = s.size := by
  unfold strL
  rw [Array.length_toList]
  rfl
theorem cell_of_heap {W : World} {b : Nat} {cs : Array Value} {t : TypeId} {fr : Nat × Nat} (h : W.heap[b]? = some (.cells cs t fr)) (j : Nat) : W.cell? ⟨b, j, none⟩ = cs[j]? := by
  simp [World.cell?, h]
theorem frozen_of_heap {W : World} {b : Nat} {cs : Array Value} {t : TypeId} (h : W.heap[b]? = some (.cells cs t (0, 0))) (j : Nat) : W.frozen? ⟨b, j, none⟩ = false := by
  simp [World.frozen?, h]
theorem heap_lt {W : World} {b : Nat} {o : Obj} (h : W.heap[b]? = some o) : b < W.heap.size := (Array.getElem?_eq_some_iff.1 h).1
theorem type_ne {W : World} {a b : Nat} {cs cs' : Array Value} {t t' : TypeId} (ha : W.heap[a]? = some (.cells cs t (0, 0))) (hb : W.heap[b]? = some (.cells cs' t' (0, 0))) (ht : t ≠ t') : a ≠ b := by
  rintro rfl
  have := ha.symm.trans hb
  injection this with e1
  injection e1 with e2 e3
  exact ht e3
theorem keep_row (W : World) (g : Nat) (cs : Array Value) : KeepBut W (W.setRow g cs) g none := ⟨by rw [setRow_size]; exact Nat.le_refl _, fun i _ h _ => setRow_other W g i cs h⟩
theorem below_row {B : Nat} {W0 W : World} (h : Below B W0 W) {g : Nat} (hg : B ≤ g) (cs : Array Value) : Below B W0 (W.setRow g cs) :=
  ⟨h.os, h.tape, h.output, by rw [setRow_size]; exact h.size, fun k hk => (setRow_other W g k cs (by omega)).trans (h.block k hk)⟩
/-- an own row in a world that has turned elsewhere -/
theorem own_kept {W W' : World} {base n size : Nat} {e : TypeId} {v : Value} {xs : List Value} {S : Nat → Prop} (h : W.ownsRow base e size v n xs) (hk : Kept W W' S) (hS : ∀ k, v.ownBlock = some k → ¬ S k) : W'.ownsRow base e size v n xs := by
  refine ⟨h.1, ?_⟩
  rcases h.2 with hn | ⟨g, cap, cur, rfl, hb', hg, hr⟩
  · exact .inl hn
  · exact .inr ⟨g, cap, cur, rfl, hb', (hk.2 g (heap_lt hg) (hS g rfl)).trans hg, hr⟩
/-- a block of another type is none of an own row's -/
theorem own_ne {W : World} {base n : Nat} {v : Value} {xs : List Value} {e t : TypeId} {size g : Nat} {cs : Array Value} (h : W.ownsRow base e size v n xs) (hg : W.heap[g]? = some (.cells cs t (0, 0))) (ht : e ≠ t) : v.ownBlock ≠ some g := by
  rcases h.2 with ⟨rfl, _⟩ | ⟨g', cap, cur, rfl, _, hg', _⟩
  · simp [Value.ownBlock]
  · simp only [Value.ownBlock, ne_eq, Option.some.injEq]
    exact (type_ne hg' hg ht)
/-- a disk at block d, but for its pending writes -/
structure D0 (W : World) (base d g1 g2 : Nat) (pv : Value) (off : Bool) (left : Nat) (dur vis : List UInt8) : Prop where
  hd : W.heap[d]? = some (.cells #[.bool off, .int .i64 left, .slice (some ⟨g1, 0, none⟩) dur.length dur.length, .slice (some ⟨g2, 0, none⟩) dur.length dur.length, pv] 54 (0, 0))
  h1 : W.heap[g1]? = some (.cells (bcells dur) 5 (0, 0))
  h2 : W.heap[g2]? = some (.cells (bcells vis) 5 (0, 0))
  len : vis.length = dur.length
  max : dur.length ≤ 4194304
  bd : base ≤ d
  b1 : base ≤ g1
  b2 : base ≤ g2
  n12 : g1 ≠ g2
  bw : base ≤ W.heap.size
/-- its pending writes -/
def Pn (W : World) (base : Nat) (pv : Value) (p : List Wr) : Prop := W.ownsRow base 56 2 pv p.length (pcells p)
section
variable {W W' : World} {base d g1 g2 : Nat} {pv : Value} {off : Bool} {left : Nat} {dur vis : List UInt8} {p : List Wr}
theorem D0.cell (h : D0 W base d g1 g2 pv off left dur vis) (j : Nat) : W.cell? ⟨d, j, none⟩ = (#[.bool off, .int .i64 left, .slice (some ⟨g1, 0, none⟩) dur.length dur.length, .slice (some ⟨g2, 0, none⟩) dur.length dur.length, pv] : Array Value)[j]? := cell_of_heap h.hd j
theorem D0.c0 (h : D0 W base d g1 g2 pv off left dur vis) : W.cell? ⟨d, 0, none⟩ = some (.bool off) := h.cell 0
theorem D0.c1 (h : D0 W base d g1 g2 pv off left dur vis) : W.cell? ⟨d, 1, none⟩ = some (.int .i64 left) := h.cell 1
theorem D0.c2 (h : D0 W base d g1 g2 pv off left dur vis) : W.cell? ⟨d, 2, none⟩ = some (.slice (some ⟨g1, 0, none⟩) dur.length dur.length) := h.cell 2
theorem D0.c3 (h : D0 W base d g1 g2 pv off left dur vis) : W.cell? ⟨d, 3, none⟩ = some (.slice (some ⟨g2, 0, none⟩) dur.length dur.length) := h.cell 3
theorem D0.c4 (h : D0 W base d g1 g2 pv off left dur vis) : W.cell? ⟨d, 4, none⟩ = some pv := h.cell 4
theorem D0.ne1 (h : D0 W base d g1 g2 pv off left dur vis) : d ≠ g1 := type_ne h.hd h.h1 (by decide)
theorem D0.ne2 (h : D0 W base d g1 g2 pv off left dur vis) : d ≠ g2 := type_ne h.hd h.h2 (by decide)
/-- a disk's own three blocks -/
def D3 (d g1 g2 k : Nat) : Prop := k = d ∨ k = g1 ∨ k = g2
/-- the blocks of a disk -/
def DF (d g1 g2 : Nat) (pv : Value) (k : Nat) : Prop := D3 d g1 g2 k ∨ pv.ownBlock = some k
theorem D0.lt (h : D0 W base d g1 g2 pv off left dur vis) : ∀ k, D3 d g1 g2 k → base ≤ k ∧ k < W.heap.size := by
  rintro k (rfl | rfl | rfl)
  · exact ⟨h.bd, heap_lt h.hd⟩
  · exact ⟨h.b1, heap_lt h.h1⟩
  · exact ⟨h.b2, heap_lt h.h2⟩
theorem D0.kept {S : Nat → Prop} (h : D0 W base d g1 g2 pv off left dur vis) (hk : Kept W W' S) (hS : ∀ k, D3 d g1 g2 k → ¬ S k) : D0 W' base d g1 g2 pv off left dur vis := by
  have hb := fun k hF => hk.2 k (h.lt k hF).2 (hS k hF)
  exact ⟨(hb d (.inl rfl)).trans h.hd, (hb g1 (.inr (.inl rfl))).trans h.h1, (hb g2 (.inr (.inr rfl))).trans h.h2, h.len, h.max, h.bd, h.b1, h.b2, h.n12, Nat.le_trans h.bw hk.1⟩
theorem D0.vis_ (h : D0 W base d g1 g2 pv off left dur vis) {v : List UInt8} (hv : v.length = dur.length) : D0 (W.setRow g2 (bcells v)) base d g1 g2 pv off left dur v :=
  ⟨(setRow_other W g2 d _ h.ne2).trans h.hd, (setRow_other W g2 g1 _ h.n12).trans h.h1, setRow_heap W g2 _ _ _ _ h.h2, hv, h.max, h.bd, h.b1, h.b2, h.n12, by rw [setRow_size]; exact h.bw⟩
theorem D0.dur_ (h : D0 W base d g1 g2 pv off left dur vis) {v : List UInt8} (hv : v.length = dur.length) : D0 (W.setRow g1 (bcells v)) base d g1 g2 pv off left v vis := by
  refine ⟨?_, setRow_heap W g1 _ _ _ _ h.h1, (setRow_other W g1 g2 _ (Ne.symm h.n12)).trans h.h2, by rw [hv]; exact h.len, by rw [hv]; exact h.max, h.bd, h.b1, h.b2, h.n12, by rw [setRow_size]; exact h.bw⟩
  rw [hv]
  exact (setRow_other W g1 d _ h.ne1).trans h.hd
theorem D0.put_ (h : D0 W base d g1 g2 pv off left dur vis) (j : Nat) (u : Value) (pv' : Value) (off' : Bool) (left' : Nat)
    (e : (#[.bool off, .int .i64 left, .slice (some ⟨g1, 0, none⟩) dur.length dur.length, .slice (some ⟨g2, 0, none⟩) dur.length dur.length, pv] : Array Value).setIfInBounds j u = #[.bool off', .int .i64 left', .slice (some ⟨g1, 0, none⟩) dur.length dur.length, .slice (some ⟨g2, 0, none⟩) dur.length dur.length, pv']) :
    D0 (W.setCell ⟨d, j, none⟩ u) base d g1 g2 pv' off' left' dur vis :=
  ⟨blk_put h.hd j u e, (Below.heap_setCell W _ u g1 (Ne.symm h.ne1)).trans h.h1, (Below.heap_setCell W _ u g2 (Ne.symm h.ne2)).trans h.h2, h.len, h.max, h.bd, h.b1, h.b2, h.n12, by simpa [World.setCell] using h.bw⟩
end
/-- what a disk holds, all of it -/
structure Dk (W : World) (base d g1 g2 : Nat) (pv : Value) (s : DD) : Prop where
  h0 : D0 W base d g1 g2 pv s.off s.left s.dur s.vis
  hp : Pn W base pv s.pend
theorem Dk.lt {W : World} {base d g1 g2 : Nat} {pv : Value} {s : DD} (h : Dk W base d g1 g2 pv s) : ∀ k, DF d g1 g2 pv k → base ≤ k ∧ k < W.heap.size := by
  rintro k (hk | hk)
  · exact h.h0.lt k hk
  · exact h.hp.lt k hk
theorem Dk.kept {W W' : World} {base d g1 g2 : Nat} {pv : Value} {s : DD} {S : Nat → Prop} (h : Dk W base d g1 g2 pv s) (hk : Kept W W' S) (hS : ∀ k, DF d g1 g2 pv k → ¬ S k) : Dk W' base d g1 g2 pv s :=
  ⟨h.h0.kept hk (fun k hF => hS k (.inl hF)), own_kept h.hp hk (fun k hF => hS k (.inr hF))⟩
theorem Dk.below {W W' : World} {base d g1 g2 : Nat} {pv : Value} {s : DD} (h : Dk W base d g1 g2 pv s) (hb : Below W.heap.size W W') : Dk W' base d g1 g2 pv s := h.kept (Kept.of_below hb (fun _ => False)) (fun _ _ hf => hf)
/-- a step of a disk -/
structure Step (W : World) (base d g1 g2 : Nat) (pv : Value) (s' : DD) (W' : World) (pv' : Value) : Prop where
  dk : Dk W' base d g1 g2 pv' s'
  own : pv'.ownBlock = pv.ownBlock ∨ ∀ k, pv'.ownBlock = some k → W.heap.size ≤ k
  bel : Below base W W'
  kept : Kept W W' (DF d g1 g2 pv)

section
variable {W : World} {base d g1 g2 : Nat} {pv : Value} {s : DD}
set_option maxHeartbeats 8000000
set_option maxRecDepth 100000
theorem check_calls (h : Dk W base d g1 g2 pv s) : Calls Try.prog 24 #[.pointer (some ⟨d, 0, none⟩)] W fun e W' => e = .returned (.int .i64 (if s.off then 231 else 0)) ∧ W' = W := by
  have hu := Try.underlying54
  have hu2 := Try.underlying51
  have h0 := h.h0.c0
  go_enter Try.func24, Try.ntmps24
  cases hs : s.off <;> rw [hs] at h0
  · go_wp2
    go_ret
    exact ⟨rfl, rfl⟩
  · go_wp2
    go_ret
    exact ⟨rfl, rfl⟩
theorem check_nil (W : World) : Calls Try.prog 24 #[.pointer none] W fun e W' => e = .returned (.int .i64 1) ∧ W' = W := by
  have hu := Try.underlying54
  have hu2 := Try.underlying51
  go_enter Try.func24, Try.ntmps24
  go_wp2
  go_ret
  exact ⟨rfl, rfl⟩
/-- do n bytes from o on lie on the disk? -/
def ins (s : DD) (o n : Int) : Bool := decide (0 ≤ o) && decide (0 ≤ n) && decide (o ≤ s.dur.length) && decide (n ≤ s.dur.length - o)
theorem inside_calls (h : Dk W base d g1 g2 pv s) (o n : Int) : Calls Try.prog 25 #[.pointer (some ⟨d, 0, none⟩), .int .i64 o, .int .i64 n] W fun e W' => e = .returned (.bool (ins s o n)) ∧ W' = W := by
  have hu := Try.underlying54
  have h0 := h.h0.c2
  have hm := h.h0.max
  unfold ins
  go_enter Try.func25, Try.ntmps25
  by_cases a1 : 0 ≤ o
  · have d1 : decide (o ≥ 0) = true := decide_eq_true a1
    by_cases a2 : 0 ≤ n
    · have d2 : decide (n ≥ 0) = true := decide_eq_true a2
      by_cases a3 : o ≤ s.dur.length
      · have d3 : decide (o ≤ (s.dur.length : Int)) = true := decide_eq_true a3
        have hw : IntKind.i64.wrap ((s.dur.length : Int) - o) = (s.dur.length : Int) - o := by
          rw [IntKind.wrap_i64]
          omega
        by_cases a4 : n ≤ s.dur.length - o
        · have d4 : decide (n ≤ (s.dur.length : Int) - o) = true := decide_eq_true a4
          go_wp2
          go_ret
          exact ⟨by simp [a1, a2, a3, a4], rfl⟩
        · have d4 : decide (n ≤ (s.dur.length : Int) - o) = false := decide_eq_false a4
          go_wp2
          go_ret
          exact ⟨by simp [a1, a2, a3, a4], rfl⟩
      · have d3 : decide (o ≤ (s.dur.length : Int)) = false := decide_eq_false a3
        go_wp2
        go_ret
        exact ⟨by simp [a1, a2, a3], rfl⟩
    · have d2 : decide (n ≥ 0) = false := decide_eq_false a2
      go_wp2
      go_ret
      exact ⟨by simp [a1, a2], rfl⟩
  · have d1 : decide (o ≥ 0) = false := decide_eq_false a1
    go_wp2
    go_ret
    exact ⟨by simp [a1], rfl⟩
/-- a write is counted -/
def usedOff (off : Bool) (left : Nat) : Bool := if left = 0 then off else decide (left = 1)
def usedLeft (left : Nat) : Nat := left - 1
theorem used_calls {off : Bool} {left : Nat} {dur vis : List UInt8} (h : D0 W base d g1 g2 pv off left dur vis) (hl : left ≤ 1000000) : Calls Try.prog 27 #[.pointer (some ⟨d, 0, none⟩)] W fun e W' =>
    e = .returned (.tuple #[]) ∧ D0 W' base d g1 g2 pv (usedOff off left) (usedLeft left) dur vis ∧ Below base W W' ∧ KeepBut W W' d none := by
  have hu := Try.underlying51
  have c0 := h.c0
  have c1 := h.c1
  have f0 := frozen_of_heap h.hd 0
  have f1 := frozen_of_heap h.hd 1
  have H := Aside0.mk h
  clear h
  go_enter Try.func27, Try.ntmps27
  by_cases a1 : left = 0
  · subst a1
    go_wp2
    go_returns
    exact ⟨rfl, H.out, Below.refl _ _, KeepBut.refl _ _ _⟩
  · have d1 : decide ((left : Int) = 0) = false := decide_eq_false (by omega)
    have hw : IntKind.i64.wrap ((left : Int) - 1) = ((left - 1 : Nat) : Int) := by
      rw [IntKind.wrap_i64]
      omega
    go_wp2
    go_returns
    have e : (((left - 1 : Nat) : Int) == 0) = usedOff off left := by
      unfold usedOff
      rw [if_neg a1, Bool.eq_iff_iff, beq_iff_eq, decide_eq_true_iff]
      omega
    rw [e]
    exact ⟨rfl, (H.out.put_ 1 _ pv off (left - 1) rfl).put_ 0 _ pv (usedOff off left) (left - 1) rfl, ((Below.refl base W).setCell (p := ⟨d, 1, none⟩) H.out.bd _).setCell (p := ⟨d, 0, none⟩) H.out.bd _, ((KeepBut.refl W d none).set_ 1 _).set_ 0 _⟩
/-- copy of a string into a row of bytes -/
theorem run_copy_str {W : World} {g : Nat} {bs : List UInt8} (hg : W.heap[g]? = some (.cells (bcells bs) 5 (0, 0))) (o : Nat) (s : ByteArray) (h : o + s.size ≤ bs.length) (ty : TypeId) :
    (Builtin.copy_ #[40, 9] ty #[.slice (if bs.length = o then some ⟨g, 0, none⟩ else some ⟨g, o, none⟩) (bs.length - o) (bs.length - o), .string s]).run Try.prog W = .ok (goInt s.size) (W.setRow g (bcells (over bs o (strL s)))) := by
  have hs : (Try.prog.info? 5).map (·.size) = some 1 := by kernel_rfl
  obtain ⟨i, hq, hi⟩ := Option.map_eq_some_iff.1 hs
  have hn : Nat.min s.size (bs.length - o) = s.size := Nat.min_eq_left (by omega)
  have he : s.extract 0 s.size = s := by simp
  have hl : List.take s.size (List.map (fun b : UInt8 => Value.int .u8 b.toNat) s.data.toList) = (bcells (strL s)).toList := by
    unfold bcells strL
    rw [List.take_of_length_le (by rw [List.length_map, Array.length_toList]; exact Nat.le_refl _)]
  have hlen : (bcells (strL s)).toList.length = s.size := by
    rw [Array.length_toList, bcells_size, strL_length]
  have h1 : ∀ v ∈ (bcells (strL s)).toList, v.oneCell' = true := by
    intro v hv
    simp only [bcells, List.mem_map] at hv
    obtain ⟨b, _, rfl⟩ := hv
    rfl
  by_cases ho : bs.length = o
  · have h0 : (bcells (strL s)).toList = [] := List.eq_nil_of_length_eq_zero (by omega)
    have h2 : strL s = [] := List.eq_nil_of_length_eq_zero (by rw [strL_length]; omega)
    rw [if_pos ho, h2, over_nil, setRow_self W g _ _ _ hg]
    simp [Builtin.copy_, run_underlying Try.underlying40, Builtin.lenOf, Builtin.firstCells, sizeOf, typeInfo, hq, hi, hn, he, hl, h0, storeCells]
  · have hst := run_storeCells_at Try.prog g o 5 (bcells (strL s)).toList 0 (bcells bs) W hg (by rw [hlen, bcells_size]; omega) h1
    rw [if_neg ho, ← bcells_over]
    rw [hlen] at hst
    simp only [Nat.add_zero, List.append_assoc] at hst
    simp [Builtin.copy_, run_underlying Try.underlying40, Builtin.lenOf, Builtin.firstCells, sizeOf, typeInfo, hq, hi, hn, he, hl, hst, strL_length]
/-- copy of a row of bytes over another of the same length -/
theorem run_copy_all {W : World} {g k n : Nat} {bs cs : List UInt8} (hg : W.heap[g]? = some (.cells (bcells bs) 5 (0, 0))) (hk : W.heap[k]? = some (.cells (bcells cs) 5 (0, 0))) (h1 : bs.length = n) (h2 : cs.length = n) (ty : TypeId) :
    (Builtin.copy_ #[40, 40] ty #[.slice (some ⟨g, 0, none⟩) n n, .slice (some ⟨k, 0, none⟩) n n]).run Try.prog W = .ok (goInt n) (W.setRow g (bcells cs)) := by
  have hr := run_copy_row (P := Try.prog) W 40 40 ty 5 g 0 n n ⟨k, 0, none⟩ n n (bcells bs) 5 (bcells cs).toList Try.underlying40 (by kernel_rfl) hg
    (by simp [bcells_size, h2]) (by
      intro j v hj
      rw [show (⟨k, 0, none⟩ : Addr).add j = ⟨k, j, none⟩ from by unfold Addr.add; split <;> simp_all, cell_of_heap hk, ← hj]
      simp) (by simp [bcells_size, h1, h2]) (by
      intro v hv
      simp only [bcells, List.mem_map] at hv
      obtain ⟨b, _, rfl⟩ := hv
      rfl)
  rw [hr]
  have e : List.drop n (bcells bs).toList = [] := List.drop_eq_nil_of_le (by rw [Array.length_toList, bcells_size]; omega)
  simp [bcells_size, h1, h2, e]
end
end Go.Proofs.Ytmonlhgfgnfbdaa
