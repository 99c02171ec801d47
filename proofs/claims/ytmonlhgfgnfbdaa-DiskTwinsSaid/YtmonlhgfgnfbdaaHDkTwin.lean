/- Three disks, none of which shares a block with another. -/
import Derived.Test.YtmonlhgfgnfbdaaHDkLoop2
namespace Go.Proofs.Ytmonlhgfgnfbdaa
open Go.RowKit Go.Lib Go.Proofs.YtmonlhgfgnfbdaaW.PrintWords Go.Proofs.YtmonlhgfgnfbdaaW.PrintLast Go.Proofs.YtmonlhgfgnfbdaaW.PrintMore
set_option linter.unusedVariables false
set_option linter.unusedSimpArgs false
structure Dn where
  d : Nat
  g1 : Nat
  g2 : Nat
def Apart (x : Dn) (p : Value) (y : Dn) (q : Value) : Prop := ∀ k, DF x.d x.g1 x.g2 p k → ¬ DF y.d y.g1 y.g2 q k
theorem Apart.symm {x y : Dn} {p q : Value} (h : Apart x p y q) : Apart y q x p := fun k h1 h2 => h k h2 h1
/-- a disk in memory, under one name -/
def DN (W : World) (base : Nat) (x : Dn) (p : Value) (s : DD) : Prop := Dk W base x.d x.g1 x.g2 p s
def SN_ (W : World) (base : Nat) (x : Dn) (p : Value) (s' : DD) (W' : World) (p' : Value) : Prop := Step W base x.d x.g1 x.g2 p s' W' p'
section
variable {W W' : World} {base base2 : Nat} {x y z : Dn} {p p' q r : Value} {s s' t u : DD}
theorem Apart.step (h : Apart x p y q) (hs : SN_ W base x p s' W' p') (hy : DN W base2 y q t) : Apart x p' y q := by
  rintro k (hk | hk) h2
  · exact h k (.inl hk) h2
  · rcases hs.own with e | e
    · exact h k (.inr (e ▸ hk)) h2
    · have h1 := e k hk
      have h3 := (hy.lt k h2).2
      omega
theorem DN.other (hy : DN W base2 y q t) (h : Apart x p y q) (hs : SN_ W base x p s' W' p') : DN W' base2 y q t := hy.kept hs.kept (fun k h1 h2 => h k h2 h1)
/-- three disks -/
structure Tw (w W : World) (x : Dn) (p : Value) (s : DD) (y : Dn) (q : Value) (t : DD) (z : Dn) (r : Value) (u : DD) : Prop where
  a : DN W w.heap.size x p s
  b : DN W w.heap.size y q t
  c : DN W w.heap.size z r u
  xy : Apart x p y q
  xz : Apart x p z r
  yz : Apart y q z r
  bel : Below w.heap.size w W
variable {w : World}
theorem Tw.rot (h : Tw w W x p s y q t z r u) : Tw w W y q t z r u x p s := ⟨h.b, h.c, h.a, h.yz, h.xy.symm, h.xz.symm, h.bel⟩
theorem Tw.below (h : Tw w W x p s y q t z r u) (hb : Below W.heap.size W W') : Tw w W' x p s y q t z r u :=
  ⟨Dk.below h.a hb, Dk.below h.b hb, Dk.below h.c hb, h.xy, h.xz, h.yz, h.bel.trans (hb.mono h.bel.size)⟩
theorem Tw.step (h : Tw w W x p s y q t z r u) (hs : SN_ W w.heap.size x p s' W' p') : Tw w W' x p' s' y q t z r u :=
  ⟨hs.dk, h.b.other h.xy hs, h.c.other h.xz hs, h.xy.step hs h.b, h.xz.step hs h.c, h.yz, h.bel.trans hs.bel⟩
theorem Tw.box (h : Tw w W x p s y q t z r u) (hs : SN_ W w.heap.size x p s' W' p') {nb : Nat} {cs : Array Value} (hx : W.heap[nb]? = some (.cells cs 42 (0, 0))) : W'.heap[nb]? = some (.cells cs 42 (0, 0)) :=
  (DS.mk h.a h.bel).boxStep hs hx
end
theorem Calm.mono {s : DD} {n i j : Nat} (h : Calm s n i) (hij : i ≤ j) : Calm s n j := ⟨h.off, h.left, h.dur, h.vis, Nat.le_trans h.pend hij, h.fit⟩
theorem Tw.start {w W1 W2 W3 W4 : World} {d1 a1 b1 d2 a2 b2 d3 a3 b3 n : Nat} (h0 : Below w.heap.size w W1)
    (h1 : Dk W2 W1.heap.size d1 a1 b1 (.slice none 0 0) ⟨false, 0, List.replicate n 0, List.replicate n 0, []⟩) (k1 : Below W1.heap.size W1 W2)
    (h2 : Dk W3 W2.heap.size d2 a2 b2 (.slice none 0 0) ⟨false, 0, List.replicate n 0, List.replicate n 0, []⟩) (k2 : Below W2.heap.size W2 W3)
    (h3 : Dk W4 W3.heap.size d3 a3 b3 (.slice none 0 0) ⟨false, 0, List.replicate n 0, List.replicate n 0, []⟩) (k3 : Below W3.heap.size W3 W4) :
    Tw w W4 ⟨d1, a1, b1⟩ (.slice none 0 0) ⟨false, 0, List.replicate n 0, List.replicate n 0, []⟩ ⟨d2, a2, b2⟩ (.slice none 0 0) ⟨false, 0, List.replicate n 0, List.replicate n 0, []⟩ ⟨d3, a3, b3⟩ (.slice none 0 0) ⟨false, 0, List.replicate n 0, List.replicate n 0, []⟩ := by
  have e0 := h0.size
  have e1 := k1.size
  have e2 := k2.size
  refine ⟨((h1.below k2).below k3).lower e0, (h2.below k3).lower (by omega), h3.lower (by omega), fun k q1 q2 => ?_, fun k q1 q2 => ?_, fun k q1 q2 => ?_, ((h0.trans (k1.mono e0)).trans (k2.mono (by omega))).trans (k3.mono (by omega))⟩
  · have := (h1.lt k q1).2
    have := (h2.lt k q2).1
    omega
  · have := (h1.lt k q1).2
    have := (h3.lt k q2).1
    omega
  · have := (h2.lt k q1).2
    have := (h3.lt k q2).1
    omega
end Go.Proofs.Ytmonlhgfgnfbdaa
