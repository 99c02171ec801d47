/- Crash of a disk. -/
import Derived.Test.YtmonlhgfgnfbdaaHDkWrite
import Derived.Test.YtmonlhgfgnfbdaaHDkSort
namespace Go.Proofs.Ytmonlhgfgnfbdaa
open Go.RowKit Go.Lib Go.Proofs.YtmonlhgfgnfbdaaW.PrintWords Go.Proofs.YtmonlhgfgnfbdaaW.PrintLast Go.Proofs.YtmonlhgfgnfbdaaW.PrintMore
set_option linter.unusedVariables false
set_option linter.unusedSimpArgs false
set_option maxHeartbeats 16000000
set_option maxRecDepth 100000
/-- what survives of a write -/
def cutW (torn : Int) (last : Bool) (t : ByteArray) : ByteArray := if last && decide (0 ≤ torn) then t.extract 0 (min torn.toNat t.size) else t
def wrAt (p : List Wr) (i : Int) : Wr := p.getD i.toNat ⟨0, ⟨#[]⟩⟩
/-- the durable content when k of the survivors are applied -/
def durAt (p : List Wr) (torn : Int) (order : List Int) (dur : List UInt8) : Nat → List UInt8
  | 0 => dur
  | k + 1 => over (durAt p torn order dur k) (wrAt p (order.getD k 0)).off (strL (cutW torn (decide (k + 1 = order.length)) (wrAt p (order.getD k 0)).s))
def orderOf (keep : List Int) : List Int := Lib.compact (sorted keep)
def crashDur (s : DD) (keep : List Int) (torn : Int) : List UInt8 := durAt s.pend torn (orderOf keep) s.dur (orderOf keep).length
def crashS (s : DD) (keep : List Int) (torn : Int) : DD := ⟨false, 0, crashDur s keep torn, crashDur s keep torn, []⟩
theorem cutW_size (torn : Int) (b : Bool) (t : ByteArray) : (cutW torn b t).size ≤ t.size := by
  unfold cutW
  split
  · rw [ByteArray.size_extract]
    omega
  · exact Nat.le_refl _
theorem compact_mem {l : List Int} : ∀ x ∈ Lib.compact l, x ∈ l := by
  intro x hx
  unfold Lib.compact Lib.compactUpTo at hx
  obtain ⟨j, hj, rfl⟩ := List.mem_map.1 hx
  have h1 := List.mem_range.1 (List.mem_filter.1 hj).1
  have h2 : l.toArray[j]! = l[j] := by simp [h1]
  rw [h2]
  exact List.getElem_mem h1
/-- strictly ascending numbers stay as they are -/
theorem order_asc {l : List Int} (h : l.Pairwise (· < ·)) : orderOf l = l := by
  unfold orderOf
  have hs : sorted l = l := List.mergeSort_of_pairwise (h.imp (fun hab => decide_eq_true (Int.le_of_lt hab)))
  rw [hs]
  refine Lib.compact_all l (fun j hj => ?_)
  rcases Nat.eq_zero_or_pos j with h0 | h0
  · exact Lib.keeps_lt_one _ j (by omega)
  · refine Lib.keeps_pos ?_
    have e1 : l.toArray[j]! = l[j] := by simp [hj]
    have e2 : l.toArray[j - 1]! = l[j - 1] := by simp [show j - 1 < l.length by omega]
    rw [e1, e2]
    have := List.pairwise_iff_getElem.1 h (j - 1) j (by omega) hj (by omega)
    omega
/-- strictly descending numbers are turned round -/
theorem order_desc {l : List Int} (h : l.Pairwise (· < ·)) : orderOf l.reverse = l := by
  have hs : sorted l.reverse = l := by
    refine List.Perm.eq_of_pairwise (le := fun a b : Int => a ≤ b) (fun a b _ _ h1 h2 => Int.le_antisymm h1 h2) ?_ (h.imp Int.le_of_lt) ?_
    · have := List.pairwise_mergeSort (le := fun x y : Int => decide (x ≤ y)) (fun a b c h1 h2 => by simp at *; omega) (fun a b => by simp; omega) l.reverse
      exact this.imp (fun hab => of_decide_eq_true hab)
    · exact (List.mergeSort_perm _ _).trans (List.reverse_perm _)
  unfold orderOf
  rw [hs]
  have := order_asc h
  unfold orderOf at this
  rwa [show sorted l = l from List.mergeSort_of_pairwise (h.imp (fun hab => decide_eq_true (Int.le_of_lt hab)))] at this
theorem order_mem {keep : List Int} : ∀ x ∈ orderOf keep, x ∈ keep := fun x hx => List.mem_mergeSort.1 (compact_mem x hx)
theorem wrAt_mem {p : List Wr} {i : Int} (h0 : 0 ≤ i) (h1 : i < p.length) : wrAt p i ∈ p := by
  unfold wrAt
  rw [List.getD_eq_getElem?_getD, List.getElem?_eq_getElem (by omega)]
  exact List.getElem_mem (by omega)
theorem durAt_length {p : List Wr} {torn : Int} {order : List Int} {dur : List UInt8} (hv : ∀ w ∈ p, w.off + w.s.size ≤ dur.length) (hx : ∀ x ∈ order, 0 ≤ x ∧ x < p.length) : ∀ k, k ≤ order.length → (durAt p torn order dur k).length = dur.length
  | 0, _ => rfl
  | k + 1, hk => by
    have ih := durAt_length (torn := torn) hv hx k (by omega)
    have hm : order.getD k 0 ∈ order := by
      rw [List.getD_eq_getElem?_getD, List.getElem?_eq_getElem (by omega)]
      exact List.getElem_mem (by omega)
    have hw := hv _ (wrAt_mem (hx _ hm).1 (hx _ hm).2)
    have hc := cutW_size torn (decide (k + 1 = order.length)) (wrAt p (order.getD k 0)).s
    unfold durAt
    rw [over_length (by rw [ih, strL_length]; omega)]
    exact ih
theorem pcells_at (p : List Wr) : ∀ (j : Nat) (hj : j < p.length) (q : Nat) (hq : q < 2), (pcells p)[j * 2 + q]? = [Value.int .i64 p[j].off, .string p[j].s][q]? := by
  induction p with
  | nil => intro j hj; cases hj
  | cons x p ih =>
    intro j hj q hq
    have e : pcells (x :: p) = [Value.int .i64 x.off, .string x.s] ++ pcells p := rfl
    rw [e]
    cases j with
    | zero =>
      rw [List.getElem?_append_left (by simp; omega)]
      simp
    | succ j =>
      rw [List.getElem?_append_right (by simp; omega)]
      simpa [show (j + 1) * 2 + q - 2 = j * 2 + q by omega] using ih j (by simpa using hj) q hq
/-- a pending write, read -/
theorem Pn.reads {W : World} {base : Nat} {pv : Value} {p : List Wr} (h : Pn W base pv p) {PA : Option Addr} {n c : Nat} (hv : pv = .slice PA n c) (j : Nat) (hj : j < p.length) :
    ∃ g, PA = some ⟨g, 0, none⟩ ∧ W.cell? ⟨g, j * 2, none⟩ = some (.int .i64 p[j].off) ∧ W.cell? ⟨g, j * 2 + 1, none⟩ = some (.string p[j].s) := by
  subst hv
  rcases h.2 with ⟨he, hn⟩ | ⟨g, cap, cur, he, hb, hg, hc, hm, hs, ht⟩
  · omega
  · injection he with e1 e2 e3
    refine ⟨g, e1, ?_, ?_⟩
    · have h0 := pcells_at p j hj 0 (by omega)
      rw [← ht, List.getElem?_take, if_pos (by omega), Array.getElem?_toList] at h0
      exact (cell_of_heap hg _).trans h0
    · have h1 := pcells_at p j hj 1 (by omega)
      rw [← ht, List.getElem?_take, if_pos (by omega), Array.getElem?_toList] at h1
      exact (cell_of_heap hg _).trans h1
section
variable {W : World} {base d g1 g2 : Nat} {pv : Value} {s : DD}
theorem values_world {W W2 : World} {d : Nat} {A : Option Addr} {n c : Nat} (hW2 : W2 = (W.alloc (.cells #[.pointer (some ⟨d, 0, none⟩)] 23)).alloc (.cells #[.slice A n c] 32)) :
    Below W.heap.size W W2 ∧ W2.heap.size = W.heap.size + 1 + 1 ∧ W2.cell? ⟨W.heap.size + 1, 0, none⟩ = some (.slice A n c) ∧ W2.heap[W.heap.size]? = some (.cells #[.pointer (some ⟨d, 0, none⟩)] 23 (0, 0)) := by
  have e1 := heap_alloc_new W (.cells #[.pointer (some ⟨d, 0, none⟩)] 23)
  have e2 := heap_alloc_new (W.alloc (.cells #[.pointer (some ⟨d, 0, none⟩)] 23)) (.cells #[.slice A n c] 32)
  rw [World.size_alloc] at e2
  subst hW2
  refine ⟨below_alloc (below_alloc (Below.refl _ _) _) _, ?_, cell_of_heap e2 0, (Below.heap_alloc _ _ _ (heap_lt e1)).trans e1⟩
  rw [World.size_alloc, World.size_alloc]
theorem sorted_calls2 (Bs : Nat) (sv : Value) (zs : List Int) (hreach : zs.length ≤ 1000000) (w : World) (hBs : Bs < w.heap.size) (hc : w.cell? ⟨Bs, 0, none⟩ = some sv) (hI : IntsB w.heap.size w sv zs) :
    Calls Try.prog 30 #[.func (.func 36) #[] #[.pointer (some ⟨Bs, 0, none⟩)]] w fun e W' => ∃ E cp, e = .returned (.slice E zs.length cp) ∧ W'.ownsRow w.heap.size 3 1 (.slice E zs.length cp) zs.length (nums .i64 (sorted zs)) ∧ Below w.heap.size w W' := by
  refine (sorted_calls Bs sv zs hreach w hBs hc hI).mono ?_
  rintro e W' ⟨v, rfl, h1, h2⟩
  obtain ⟨E, cp, rfl, _, _⟩ := own_reads h1
  have hl : (sorted zs).length = zs.length := List.length_mergeSort ..
  rw [hl] at h1 ⊢
  exact ⟨E, cp, rfl, h1, h2⟩
theorem compact_order (base : Nat) (E : Option Addr) (cp : Nat) (keep : List Int) (w : World) (ho : w.ownsRow base 3 1 (.slice E keep.length cp) keep.length (nums .i64 (sorted keep))) (hb : base ≤ w.heap.size) (hl : keep.length ≤ 100000) :
    Calls Try.prog 29 #[.slice E keep.length cp] w fun e w' => e = .returned (.slice E (orderOf keep).length cp) ∧ w'.ownsRow base 3 1 (.slice E (orderOf keep).length cp) (orderOf keep).length (nums .i64 (orderOf keep)) ∧ Below base w w' := by
  have hs : (sorted keep).length = keep.length := List.length_mergeSort ..
  rw [← hs] at ho ⊢
  exact (compact_own base _ (sorted keep) w ho hb (by omega)).mono fun e w' he => ⟨he.1, he.2.1, (Below.refl base w).grown he.2.2 hb (fun k hk => (ho.lt k hk).1)⟩
theorem crash_world {W W2 W4 : World} {base d g1 g2 : Nat} {pv : Value} {s : DD} {v : Value} (h : Dk W base d g1 g2 pv s)
    (h2 : Below W.heap.size W W2 ∧ W2.heap.size = W.heap.size + 1 + 1 ∧ W2.cell? ⟨W.heap.size + 1, 0, none⟩ = some v ∧ W2.heap[W.heap.size]? = some (.cells #[.pointer (some ⟨d, 0, none⟩)] 23 (0, 0))) (hb : Below W2.heap.size W2 W4) :
    Dk W4 base d g1 g2 pv s ∧ Below W.heap.size W W4 ∧ W4.heap[W.heap.size]? = some (.cells #[.pointer (some ⟨d, 0, none⟩)] 23 (0, 0)) := by
  have hb04 : Below W.heap.size W W4 := h2.1.trans (hb.mono h2.1.size)
  exact ⟨h.below hb04, hb04, (hb.block W.heap.size (by rw [h2.2.1]; omega)).trans h2.2.2.2⟩
theorem ints_later {W W2 : World} {v : Value} {zs : List Int} (h : IntsB W.heap.size W v zs) (hb : Below W.heap.size W W2) : IntsB W2.heap.size W2 v zs := by
  rcases h with e | ⟨b, off, cap, e, hlt, hc⟩
  · exact .inl e
  · exact .inr ⟨b, off, cap, e, Nat.lt_of_lt_of_le hlt hb.size, fun j hj => (hb.cell (p := ⟨b, off + j, none⟩) hlt).trans (hc j hj)⟩
theorem crash_round {WD W5 W6 : World} {base d g1 g2 nb bn : Nat} {pv : Value} {off : Bool} {left o : Nat} {bk vis l : List UInt8} {cb cx : Array Value} {tb tx : TypeId} (h : D0 WD base d g1 g2 pv off left bk vis) (hfit : o + l.length ≤ bk.length)
    (hB : Below WD.heap.size WD W5) (hW : W6 = W5.setRow g1 (bcells (over bk o l))) (hb : WD.heap[nb]? = some (.cells cb tb (0, 0))) (hx : WD.heap[bn]? = some (.cells cx tx (0, 0))) (htb : tb ≠ 5) (htx : tx ≠ 5) :
    D0 W6 base d g1 g2 pv off left (over bk o l) vis ∧ Below base WD W6 ∧ Kept WD W6 (fun q => q = g1) ∧ W6.heap[nb]? = some (.cells cb tb (0, 0)) ∧ W6.heap[bn]? = some (.cells cx tx (0, 0)) := by
  subst hW
  have h5 := h.kept (Kept.of_below hB (fun _ => False)) (fun _ _ hf => hf)
  refine ⟨h5.dur_ (over_length hfit), below_row (hB.mono h.bw) h.b1 _, (Kept.of_below hB _).of_keep (keep_row W5 g1 _) (.inl rfl), ?_, ?_⟩
  · exact (setRow_other W5 g1 nb _ (type_ne hb h.h1 htb)).trans ((hB.block nb (heap_lt hb)).trans hb)
  · exact (setRow_other W5 g1 bn _ (type_ne hx h.h1 htx)).trans ((hB.block bn (heap_lt hx)).trans hx)
theorem crash_box {W W' : World} {base d g1 g2 bn : Nat} {pv pv' : Value} {s' : DD} {off : Bool} {left : Nat} {dur vis : List UInt8} {p : List Wr} {cx : Array Value} (hs : Step W base d g1 g2 pv s' W' pv') (h : D0 W base d g1 g2 pv off left dur vis) (hp : Pn W base pv p)
    (hx : W.heap[bn]? = some (.cells cx 23 (0, 0))) : W'.heap[bn]? = some (.cells cx 23 (0, 0)) := by
  refine (hs.kept.2 bn (heap_lt hx) ?_).trans hx
  rintro ((e | e | e) | e)
  · exact type_ne hx h.hd (by decide) e
  · exact type_ne hx h.h1 (by decide) e
  · exact type_ne hx h.h2 (by decide) e
  · exact own_ne hp hx (by decide) e
theorem crash_nil (W : World) (v : Value) (torn : Int) : Calls Try.prog 21 #[.pointer none, v, .int .i64 torn] W fun e W' => e = .returned (.int .i64 1) ∧ Below W.heap.size W W' := by
  go_enter Try.func21, Try.ntmps21
  go_wp2
  go_returns
  exact ⟨rfl, below_alloc (Below.refl _ _) _⟩
theorem crash_calls (h : Dk W base d g1 g2 pv s) (hv : ∀ w ∈ s.pend, w.off + w.s.size ≤ s.dur.length) (A : Option Addr) (c : Nat) (keep : List Int) (hA : IntsB W.heap.size W (.slice A keep.length c) keep)
    (hx : ∀ x ∈ keep, 0 ≤ x ∧ x < s.pend.length) (hl : keep.length ≤ 100000) (torn : Int) :
    Calls Try.prog 21 #[.pointer (some ⟨d, 0, none⟩), .slice A keep.length c, .int .i64 torn] W fun e W' => e = .returned (.int .i64 0) ∧ ∃ pv', Step W base d g1 g2 pv (crashS s keep torn) W' pv' := by
  have hu := Try.underlying54
  have hu2 := Try.underlying56
  have hu3 := Try.underlying51
  obtain ⟨PA, pc, hpv, hpc⟩ := h.hp.slice
  have H := Aside0.mk h
  have HA := Aside0.mk hA
  have hso : (sorted keep).length ≤ 100000 := by simpa using hl
  have hor : (orderOf keep).length ≤ 100000 := Nat.le_trans (Lib.compact_length_le _) hso
  have hxo : ∀ x ∈ orderOf keep, 0 ≤ x ∧ x < s.pend.length := fun x hm => hx x (order_mem x hm)
  have HX := Aside0.mk (And.intro hv (And.intro hx hxo))
  clear h hA hv hx hxo
  go_enter Try.func21, Try.ntmps21
  have hB1 : Below W.heap.size W (W.alloc (.cells #[.pointer (some ⟨d, 0, none⟩)] 23)) := below_alloc (Below.refl _ _) _
  have hx1 := heap_alloc_new W (.cells #[.pointer (some ⟨d, 0, none⟩)] 23)
  have hx1c := cell_of_heap hx1 0
  have HB1 := Aside0.mk (And.intro hB1 hx1)
  clear hB1 hx1
  go_upto_region 5 with (first | (go_at_call 32; refine (delete_none _ (orderOf keep) HO4.out HX.out.2.2 hbc4 hdc4 (by omega)).mono ?_; rintro e W5 ⟨rfl, hW5⟩; subst hW5; clear hbc4 hdc4) | (go_at_call 29; refine (compact_order W2.heap.size E cp keep W3 H3.out.1 H3.out.2.size hl).mono ?_; rintro e W4 ⟨rfl, ho4, hg4⟩; have H4 := Aside0.mk (crash_world H.out HW2.out (H3.out.2.trans hg4)); have hbc4 := cell_of_heap H4.out.2.2 0; have hdc4 := H4.out.1.h0.c4; rw [hpv] at hdc4; have HO4 := Aside0.mk ho4; clear ho4 hg4) | (go_at_call 30; refine (sorted_calls2 (W.heap.size + 1) (.slice A keep.length c) keep (by omega) W2 (by rw [HW2.out.2.1]; omega) HW2.out.2.2.1 (ints_later HA.out HW2.out.1)).mono ?_; rintro e W3 ⟨E, cp, rfl, ho3, hb3⟩; have H3 := Aside0.mk (And.intro ho3 hb3); clear ho3 hb3) | (go_at_call 31; refine (values_calls A keep.length c _).mono ?_; rintro e W2 ⟨rfl, hW2⟩; have HW2 := Aside0.mk (values_world hW2); clear hW2 hx1c; (try simp only [World.size_alloc])))
  obtain ⟨ord, hord⟩ : ∃ l, orderOf keep = l := ⟨_, rfl⟩
  have hcs : crashS s keep torn = ⟨false, 0, durAt s.pend torn ord s.dur ord.length, durAt s.pend torn ord s.dur ord.length, []⟩ := by
    unfold crashS crashDur
    rw [hord]
  rw [hord] at HO4 HX hor ⊢
  have HL := Aside0.mk (fun k hk => durAt_length (torn := torn) HX.out.1 HX.out.2.2 k hk)
  have HC := Aside0.mk hcs
  clear hcs hord HW2 H3 hso HA
  go_wp2
  go_loopg [22] (ord.length + 1) (fun gk v22 w' => ∃ k : Nat, v22 = .int .i64 k ∧ Aside0 (k ≤ ord.length ∧ gk = ord.length - k + 1 ∧ D0 w' base d g1 g2 pv s.off s.left (durAt s.pend torn ord s.dur k) s.vis ∧ Kept W5 w' (fun q => q = g1) ∧ Below base W5 w'))
  case atStart => exact ⟨0, rfl, ⟨by omega, by omega, H4.out.1.h0, Kept.refl _ _, Below.refl _ _⟩⟩
  case round =>
    obtain ⟨k, rfl, HI⟩ := hrel
    obtain ⟨hk0, hgk, hD, hK, hB⟩ := HI.out
    clear HI
    have ho := own_kept HO4.out hK (fun q hq e => own_ne HO4.out H4.out.1.h0.h1 (by decide) (e ▸ hq))
    have hp : Pn wr base pv s.pend := own_kept H4.out.1.hp hK (fun q hq e => own_ne H4.out.1.hp H4.out.1.h0.h1 (by decide) (e ▸ hq))
    have hbx := (hK.2 W.heap.size (heap_lt H4.out.2.2) (type_ne H4.out.2.2 H4.out.1.h0.h1 (by decide))).trans H4.out.2.2
    have R := Aside0.mk (And.intro hD (And.intro hK (And.intro hB (And.intro hp hbx))))
    have hbc := cell_of_heap hbx 0
    have hdc := hD.c4
    rw [hpv] at hdc
    by_cases hk : k < ord.length
    · have hd : decide ((k : Int) < (ord.length : Int)) = true := decide_eq_true (by omega)
      obtain ⟨E', c', he, _, hr⟩ := own_reads ho
      injection he with he1 he2 he3
      subst he1
      subst he3
      clear he2
      obtain ⟨go, rfl, hco⟩ := hr k hk
      have hxm := List.getElem_mem hk
      have hgd : ord.getD k 0 = ord[k] := by
        rw [List.getD_eq_getElem?_getD, List.getElem?_eq_getElem hk]
        rfl
      have hwr := wrAt_mem (HX.out.2.2 _ hxm).1 (HX.out.2.2 _ hxm).2
      obtain ⟨q0, q1⟩ := HX.out.2.2 _ hxm
      generalize ord[k] = x at hco hgd hwr q0 q1
      obtain ⟨m, rfl⟩ : ∃ m : Nat, x = m := ⟨x.toNat, by omega⟩
      have hmp : m < s.pend.length := by omega
      obtain ⟨gp, hpa, hc0, hc1⟩ := Pn.reads hp hpv m hmp
      subst hpa
      have hwm : wrAt s.pend (m : Int) = s.pend[m] := by
        unfold wrAt
        rw [List.getD_eq_getElem?_getD, Int.toNat_natCast, List.getElem?_eq_getElem hmp]
        rfl
      have hwv := HX.out.1 _ hwr
      have hdu : durAt s.pend torn ord s.dur (k + 1) = over (durAt s.pend torn ord s.dur k) (wrAt s.pend (m : Int)).off (strL (cutW torn (decide (k + 1 = ord.length)) (wrAt s.pend (m : Int)).s)) := by
        rw [← hgd]
        rfl
      rw [hwm] at hwr hwv hdu
      generalize s.pend[m] = w0 at hc0 hc1 hwv hdu hwr
      have HU := Aside0.mk (And.intro hwv hdu)
      clear hD hK hB ho hp hbx hr hxm hgd hwr hwm hwv hdu
      have hdr := Aside0.mk hgk
      clear hgk
      have hw9 : IntKind.i64.wrap ((ord.length : Int) - 1) = (ord.length : Int) - 1 := by
        rw [IntKind.wrap_i64]
        omega
      have hbB := heap_alloc_new wr (.cells #[.int .i64 w0.off, .string w0.s] 56)
      have hBB : Below wr.heap.size wr (wr.alloc (.cells #[.int .i64 w0.off, .string w0.s] 56)) := below_alloc (Below.refl _ _) _
      have HB := Aside0.mk (And.intro hbB hBB)
      clear hbB hBB
      by_cases hlast : k + 1 = ord.length
      · have e1 : decide ((k : Int) = (ord.length : Int) - 1) = true := decide_eq_true (by omega)
        by_cases ht : 0 ≤ torn
        · have e2 : decide (torn ≥ 0) = true := decide_eq_true ht
          obtain ⟨tn, rfl⟩ : ∃ n : Nat, torn = n := ⟨torn.toNat, by omega⟩
          have c1 := cell_of_heap HB.out.1 1
          have f1 := frozen_of_heap HB.out.1 1
          have HTR : Aside0 (w0.s.extract 0 (min (tn : Int) (w0.s.size : Int)).toNat = cutW (tn : Int) (decide (k + 1 = ord.length)) w0.s) := Aside0.mk (by
            unfold cutW
            rw [decide_eq_true hlast, decide_eq_true ht, Bool.and_true, if_pos rfl]
            congr 1
            omega)
          go_upto_region 11 with fail
          have hbox := heap_alloc_new wr (.cells #[.int .i64 w0.off, .string (w0.s.extract 0 (min (tn : Int) (w0.s.size : Int)).toNat)] 56)
          have hBel : Below wr.heap.size wr (wr.alloc (.cells #[.int .i64 w0.off, .string (w0.s.extract 0 (min (tn : Int) (w0.s.size : Int)).toNat)] 56)) := below_alloc (Below.refl _ _) _
          obtain ⟨WC, hWC⟩ : ∃ W1, (wr.alloc (.cells #[.int .i64 w0.off, .string (w0.s.extract 0 (min (tn : Int) (w0.s.size : Int)).toNat)] 56)) = W1 := ⟨_, rfl⟩
          have hbox2 : WC.heap[wr.heap.size]? = some (.cells #[.int .i64 w0.off, .string (w0.s.extract 0 (min (tn : Int) (w0.s.size : Int)).toNat)] 56 (0, 0)) := hWC ▸ hbox
          have hBel2 : Below wr.heap.size wr WC := hWC ▸ hBel
          rw [hWC]
          clear hbox hBel hWC
          have hD11 : D0 WC.drew base d g1 g2 pv s.off s.left (durAt s.pend (tn : Int) ord s.dur k) s.vis := R.out.1.kept (Kept.of_below (below_drew hBel2) (fun _ => False)) (fun _ _ hf => hf)
          have hx11 : WC.drew.heap[W.heap.size]? = some (.cells #[.pointer (some ⟨d, 0, none⟩)] 23 (0, 0)) := (hBel2.block W.heap.size (heap_lt R.out.2.2.2.2)).trans R.out.2.2.2.2
          have hb11 : WC.drew.heap[wr.heap.size]? = some (.cells #[.int .i64 w0.off, .string (w0.s.extract 0 (min (tn : Int) (w0.s.size : Int)).toNat)] 56 (0, 0)) := hbox2
          have hlk := HL.out k (by omega)
          have hfit : w0.off + (w0.s.extract 0 (min (tn : Int) (w0.s.size : Int)).toNat).size ≤ (durAt s.pend (tn : Int) ord s.dur k).length := by
            have q1 := cutW_size (tn : Int) (decide (k + 1 = ord.length)) w0.s
            have q2 := HU.out.1
            rw [← HTR.out] at q1
            omega
          have H11 := Aside0.mk (And.intro hD11 (And.intro hx11 (And.intro hb11 hBel2)))
          clear hD11 hx11 hb11 hbox2 hBel2
          refine wp_region_held_drew (S := (fun Wq => Wq.cell? ⟨wr.heap.size, 0, none⟩ = some (.int .i64 w0.off) ∧ Wq.cell? ⟨wr.heap.size, 1, none⟩ = some (.string (w0.s.extract 0 (min (tn : Int) (w0.s.size : Int)).toNat)) ∧ Wq.cell? ⟨W.heap.size, 0, none⟩ = some (.pointer (some ⟨d, 0, none⟩)) ∧ Wq.cell? ⟨d, 2, none⟩ = some (.slice (some ⟨g1, 0, none⟩) s.dur.length s.dur.length))) (by kernel_rfl) (by (try dsimp only); first | exact ⟨cell_of_heap H6.out.2.2.2.1 0, cell_of_heap H6.out.2.2.2.1 1, cell_of_heap H6.out.2.2.2.2 0, by have := H6.out.1.c2; rw [over_length (by rw [strL_length]; exact hfit), hlk] at this; exact this⟩ | exact ⟨cell_of_heap H11.out.2.2.1 0, cell_of_heap H11.out.2.2.1 1, cell_of_heap H11.out.2.1 0, by have := H11.out.1.c2; rw [hlk] at this; exact this⟩) (fun hHeld => ?_)
          first | refine reg_tk 0 ?_ | refine reg_sk 0 ?_ | fail
          (try simp only [Act.put, List.setIfInBounds_toArray, List.set_cons_zero, List.set_cons_succ])
          first | refine reg_tk 1 ?_ | refine reg_sk 1 ?_ | fail
          (try simp only [Act.put, List.setIfInBounds_toArray, List.set_cons_zero, List.set_cons_succ])
          first | refine reg_tk 2 ?_ | refine reg_sk 2 ?_ | fail
          (try simp only [Act.put, List.setIfInBounds_toArray, List.set_cons_zero, List.set_cons_succ])
          first | refine reg_tk 3 ?_ | refine reg_sk 3 ?_ | fail
          (try simp only [Act.put, List.setIfInBounds_toArray, List.set_cons_zero, List.set_cons_succ])
          first | refine reg_tk 4 ?_ | refine reg_sk 4 ?_ | fail
          (try simp only [Act.put, List.setIfInBounds_toArray, List.set_cons_zero, List.set_cons_succ])
          first | refine reg_sk 5 ?_ | (refine reg_one 5 (fun KK_ hKK_ => ?_); go_simp; (go_at_call 26; refine (onto_calls2 H11.out.1.h1 ⟨w0.off, w0.s.extract 0 (min (tn : Int) (w0.s.size : Int)).toNat⟩ hlk hfit (by rw [hlk]; have := H.out.h0.max; exact this)).mono ?_; rintro e W6 ⟨rfl, W5b, hB5, hW6⟩; have H6 := Aside0.mk (crash_round H11.out.1 (by rw [strL_length]; exact hfit) hB5 hW6 H11.out.2.2.1 H11.out.2.1 (by decide) (by decide)); clear hB5 hW6); refine hKK_.out _ _ (by (try dsimp only); first | exact ⟨cell_of_heap H6.out.2.2.2.1 0, cell_of_heap H6.out.2.2.2.1 1, cell_of_heap H6.out.2.2.2.2 0, by have := H6.out.1.c2; rw [over_length (by rw [strL_length]; exact hfit), hlk] at this; exact this⟩ | exact ⟨cell_of_heap H11.out.2.2.1 0, cell_of_heap H11.out.2.2.1 1, cell_of_heap H11.out.2.1 0, by have := H11.out.1.c2; rw [hlk] at this; exact this⟩) (fun hHeld => ?_); clear hKK_ KK_) | fail
          (try simp only [Act.put, List.setIfInBounds_toArray, List.set_cons_zero, List.set_cons_succ])
          refine wpAnyH_done (by kernel_rfl) ?_ _
          go_wp2
          go_roundg (ord.length - k)
          case rel =>
            have hdu := HU.out.2
            rw [← HTR.out] at hdu
            refine ⟨k + 1, by simp <;> (first | omega | (unfold wrap64; omega)), ⟨by omega, by omega, ?_, (R.out.2.1.then_ (Kept.of_below (below_drew H11.out.2.2.2) (fun _ => False)) (fun _ hf => hf.elim)).then_ H6.out.2.2.1 (fun q hq => .inl hq), (R.out.2.2.1.trans ((below_drew H11.out.2.2.2).mono R.out.1.bw)).trans H6.out.2.1⟩⟩
            rw [hdu]
            exact H6.out.1
          case measure => have := hdr.out; omega
        · have e2 : decide (torn ≥ 0) = false := decide_eq_false (by omega)
          have HTR : Aside0 (w0.s = cutW torn (decide (k + 1 = ord.length)) w0.s) := Aside0.mk (by unfold cutW; rw [decide_eq_false ht, Bool.and_false]; rfl)
          go_upto_region 11 with fail
          have hbox := HB.out.1
          have hBel := HB.out.2
          obtain ⟨WC, hWC⟩ : ∃ W1, (wr.alloc (.cells #[.int .i64 w0.off, .string w0.s] 56)) = W1 := ⟨_, rfl⟩
          have hbox2 : WC.heap[wr.heap.size]? = some (.cells #[.int .i64 w0.off, .string (w0.s)] 56 (0, 0)) := hWC ▸ hbox
          have hBel2 : Below wr.heap.size wr WC := hWC ▸ hBel
          rw [hWC]
          clear hbox hBel hWC
          have hD11 : D0 WC.drew base d g1 g2 pv s.off s.left (durAt s.pend torn ord s.dur k) s.vis := R.out.1.kept (Kept.of_below (below_drew hBel2) (fun _ => False)) (fun _ _ hf => hf)
          have hx11 : WC.drew.heap[W.heap.size]? = some (.cells #[.pointer (some ⟨d, 0, none⟩)] 23 (0, 0)) := (hBel2.block W.heap.size (heap_lt R.out.2.2.2.2)).trans R.out.2.2.2.2
          have hb11 : WC.drew.heap[wr.heap.size]? = some (.cells #[.int .i64 w0.off, .string (w0.s)] 56 (0, 0)) := hbox2
          have hlk := HL.out k (by omega)
          have hfit : w0.off + (w0.s).size ≤ (durAt s.pend torn ord s.dur k).length := by
            have q1 := cutW_size torn (decide (k + 1 = ord.length)) w0.s
            have q2 := HU.out.1
            rw [← HTR.out] at q1
            omega
          have H11 := Aside0.mk (And.intro hD11 (And.intro hx11 (And.intro hb11 hBel2)))
          clear hD11 hx11 hb11 hbox2 hBel2
          refine wp_region_held_drew (S := (fun Wq => Wq.cell? ⟨wr.heap.size, 0, none⟩ = some (.int .i64 w0.off) ∧ Wq.cell? ⟨wr.heap.size, 1, none⟩ = some (.string (w0.s)) ∧ Wq.cell? ⟨W.heap.size, 0, none⟩ = some (.pointer (some ⟨d, 0, none⟩)) ∧ Wq.cell? ⟨d, 2, none⟩ = some (.slice (some ⟨g1, 0, none⟩) s.dur.length s.dur.length))) (by kernel_rfl) (by (try dsimp only); first | exact ⟨cell_of_heap H6.out.2.2.2.1 0, cell_of_heap H6.out.2.2.2.1 1, cell_of_heap H6.out.2.2.2.2 0, by have := H6.out.1.c2; rw [over_length (by rw [strL_length]; exact hfit), hlk] at this; exact this⟩ | exact ⟨cell_of_heap H11.out.2.2.1 0, cell_of_heap H11.out.2.2.1 1, cell_of_heap H11.out.2.1 0, by have := H11.out.1.c2; rw [hlk] at this; exact this⟩) (fun hHeld => ?_)
          first | refine reg_tk 0 ?_ | refine reg_sk 0 ?_ | fail
          (try simp only [Act.put, List.setIfInBounds_toArray, List.set_cons_zero, List.set_cons_succ])
          first | refine reg_tk 1 ?_ | refine reg_sk 1 ?_ | fail
          (try simp only [Act.put, List.setIfInBounds_toArray, List.set_cons_zero, List.set_cons_succ])
          first | refine reg_tk 2 ?_ | refine reg_sk 2 ?_ | fail
          (try simp only [Act.put, List.setIfInBounds_toArray, List.set_cons_zero, List.set_cons_succ])
          first | refine reg_tk 3 ?_ | refine reg_sk 3 ?_ | fail
          (try simp only [Act.put, List.setIfInBounds_toArray, List.set_cons_zero, List.set_cons_succ])
          first | refine reg_tk 4 ?_ | refine reg_sk 4 ?_ | fail
          (try simp only [Act.put, List.setIfInBounds_toArray, List.set_cons_zero, List.set_cons_succ])
          first | refine reg_sk 5 ?_ | (refine reg_one 5 (fun KK_ hKK_ => ?_); go_simp; (go_at_call 26; refine (onto_calls2 H11.out.1.h1 ⟨w0.off, w0.s⟩ hlk hfit (by rw [hlk]; have := H.out.h0.max; exact this)).mono ?_; rintro e W6 ⟨rfl, W5b, hB5, hW6⟩; have H6 := Aside0.mk (crash_round H11.out.1 (by rw [strL_length]; exact hfit) hB5 hW6 H11.out.2.2.1 H11.out.2.1 (by decide) (by decide)); clear hB5 hW6); refine hKK_.out _ _ (by (try dsimp only); first | exact ⟨cell_of_heap H6.out.2.2.2.1 0, cell_of_heap H6.out.2.2.2.1 1, cell_of_heap H6.out.2.2.2.2 0, by have := H6.out.1.c2; rw [over_length (by rw [strL_length]; exact hfit), hlk] at this; exact this⟩ | exact ⟨cell_of_heap H11.out.2.2.1 0, cell_of_heap H11.out.2.2.1 1, cell_of_heap H11.out.2.1 0, by have := H11.out.1.c2; rw [hlk] at this; exact this⟩) (fun hHeld => ?_); clear hKK_ KK_) | fail
          (try simp only [Act.put, List.setIfInBounds_toArray, List.set_cons_zero, List.set_cons_succ])
          refine wpAnyH_done (by kernel_rfl) ?_ _
          go_wp2
          go_roundg (ord.length - k)
          case rel =>
            have hdu := HU.out.2
            rw [← HTR.out] at hdu
            refine ⟨k + 1, by simp <;> (first | omega | (unfold wrap64; omega)), ⟨by omega, by omega, ?_, (R.out.2.1.then_ (Kept.of_below (below_drew H11.out.2.2.2) (fun _ => False)) (fun _ hf => hf.elim)).then_ H6.out.2.2.1 (fun q hq => .inl hq), (R.out.2.2.1.trans ((below_drew H11.out.2.2.2).mono R.out.1.bw)).trans H6.out.2.1⟩⟩
            rw [hdu]
            exact H6.out.1
          case measure => have := hdr.out; omega
      · have e1 : decide ((k : Int) = (ord.length : Int) - 1) = false := decide_eq_false (by omega)
        have HTR : Aside0 (w0.s = cutW torn (decide (k + 1 = ord.length)) w0.s) := Aside0.mk (by unfold cutW; rw [decide_eq_false hlast, Bool.false_and]; rfl)
        go_upto_region 11 with fail
        have hbox := HB.out.1
        have hBel := HB.out.2
        obtain ⟨WC, hWC⟩ : ∃ W1, (wr.alloc (.cells #[.int .i64 w0.off, .string w0.s] 56)) = W1 := ⟨_, rfl⟩
        have hbox2 : WC.heap[wr.heap.size]? = some (.cells #[.int .i64 w0.off, .string (w0.s)] 56 (0, 0)) := hWC ▸ hbox
        have hBel2 : Below wr.heap.size wr WC := hWC ▸ hBel
        rw [hWC]
        clear hbox hBel hWC
        have hD11 : D0 WC.drew base d g1 g2 pv s.off s.left (durAt s.pend torn ord s.dur k) s.vis := R.out.1.kept (Kept.of_below (below_drew hBel2) (fun _ => False)) (fun _ _ hf => hf)
        have hx11 : WC.drew.heap[W.heap.size]? = some (.cells #[.pointer (some ⟨d, 0, none⟩)] 23 (0, 0)) := (hBel2.block W.heap.size (heap_lt R.out.2.2.2.2)).trans R.out.2.2.2.2
        have hb11 : WC.drew.heap[wr.heap.size]? = some (.cells #[.int .i64 w0.off, .string (w0.s)] 56 (0, 0)) := hbox2
        have hlk := HL.out k (by omega)
        have hfit : w0.off + (w0.s).size ≤ (durAt s.pend torn ord s.dur k).length := by
          have q1 := cutW_size torn (decide (k + 1 = ord.length)) w0.s
          have q2 := HU.out.1
          rw [← HTR.out] at q1
          omega
        have H11 := Aside0.mk (And.intro hD11 (And.intro hx11 (And.intro hb11 hBel2)))
        clear hD11 hx11 hb11 hbox2 hBel2
        refine wp_region_held_drew (S := (fun Wq => Wq.cell? ⟨wr.heap.size, 0, none⟩ = some (.int .i64 w0.off) ∧ Wq.cell? ⟨wr.heap.size, 1, none⟩ = some (.string (w0.s)) ∧ Wq.cell? ⟨W.heap.size, 0, none⟩ = some (.pointer (some ⟨d, 0, none⟩)) ∧ Wq.cell? ⟨d, 2, none⟩ = some (.slice (some ⟨g1, 0, none⟩) s.dur.length s.dur.length))) (by kernel_rfl) (by (try dsimp only); first | exact ⟨cell_of_heap H6.out.2.2.2.1 0, cell_of_heap H6.out.2.2.2.1 1, cell_of_heap H6.out.2.2.2.2 0, by have := H6.out.1.c2; rw [over_length (by rw [strL_length]; exact hfit), hlk] at this; exact this⟩ | exact ⟨cell_of_heap H11.out.2.2.1 0, cell_of_heap H11.out.2.2.1 1, cell_of_heap H11.out.2.1 0, by have := H11.out.1.c2; rw [hlk] at this; exact this⟩) (fun hHeld => ?_)
        first | refine reg_tk 0 ?_ | refine reg_sk 0 ?_ | fail
        (try simp only [Act.put, List.setIfInBounds_toArray, List.set_cons_zero, List.set_cons_succ])
        first | refine reg_tk 1 ?_ | refine reg_sk 1 ?_ | fail
        (try simp only [Act.put, List.setIfInBounds_toArray, List.set_cons_zero, List.set_cons_succ])
        first | refine reg_tk 2 ?_ | refine reg_sk 2 ?_ | fail
        (try simp only [Act.put, List.setIfInBounds_toArray, List.set_cons_zero, List.set_cons_succ])
        first | refine reg_tk 3 ?_ | refine reg_sk 3 ?_ | fail
        (try simp only [Act.put, List.setIfInBounds_toArray, List.set_cons_zero, List.set_cons_succ])
        first | refine reg_tk 4 ?_ | refine reg_sk 4 ?_ | fail
        (try simp only [Act.put, List.setIfInBounds_toArray, List.set_cons_zero, List.set_cons_succ])
        first | refine reg_sk 5 ?_ | (refine reg_one 5 (fun KK_ hKK_ => ?_); go_simp; (go_at_call 26; refine (onto_calls2 H11.out.1.h1 ⟨w0.off, w0.s⟩ hlk hfit (by rw [hlk]; have := H.out.h0.max; exact this)).mono ?_; rintro e W6 ⟨rfl, W5b, hB5, hW6⟩; have H6 := Aside0.mk (crash_round H11.out.1 (by rw [strL_length]; exact hfit) hB5 hW6 H11.out.2.2.1 H11.out.2.1 (by decide) (by decide)); clear hB5 hW6); refine hKK_.out _ _ (by (try dsimp only); first | exact ⟨cell_of_heap H6.out.2.2.2.1 0, cell_of_heap H6.out.2.2.2.1 1, cell_of_heap H6.out.2.2.2.2 0, by have := H6.out.1.c2; rw [over_length (by rw [strL_length]; exact hfit), hlk] at this; exact this⟩ | exact ⟨cell_of_heap H11.out.2.2.1 0, cell_of_heap H11.out.2.2.1 1, cell_of_heap H11.out.2.1 0, by have := H11.out.1.c2; rw [hlk] at this; exact this⟩) (fun hHeld => ?_); clear hKK_ KK_) | fail
        (try simp only [Act.put, List.setIfInBounds_toArray, List.set_cons_zero, List.set_cons_succ])
        refine wpAnyH_done (by kernel_rfl) ?_ _
        go_wp2
        go_roundg (ord.length - k)
        case rel =>
          have hdu := HU.out.2
          rw [← HTR.out] at hdu
          refine ⟨k + 1, by simp <;> (first | omega | (unfold wrap64; omega)), ⟨by omega, by omega, ?_, (R.out.2.1.then_ (Kept.of_below (below_drew H11.out.2.2.2) (fun _ => False)) (fun _ hf => hf.elim)).then_ H6.out.2.2.1 (fun q hq => .inl hq), (R.out.2.2.1.trans ((below_drew H11.out.2.2.2).mono R.out.1.bw)).trans H6.out.2.1⟩⟩
          rw [hdu]
          exact H6.out.1
        case measure => have := hdr.out; omega
    · obtain rfl : k = ord.length := by omega
      have hd : decide (((ord.length : Nat) : Int) < (ord.length : Int)) = false := decide_eq_false (by omega)
      go_upto_region 13 with fail
      have hlk := HL.out ord.length (Nat.le_refl _)
      have hD13 : D0 wr.drew base d g1 g2 pv s.off s.left (durAt s.pend torn ord s.dur ord.length) s.vis := R.out.1.kept (Kept.of_below (below_drew (Below.refl _ _)) (fun _ => False)) (fun _ _ hf => hf)
      have hp13 : Pn wr.drew base pv s.pend := R.out.2.2.2.1
      have hx13 : wr.drew.heap[W.heap.size]? = some (.cells #[.pointer (some ⟨d, 0, none⟩)] 23 (0, 0)) := R.out.2.2.2.2
      have H13 := Aside0.mk (And.intro hD13 (And.intro hp13 hx13))
      clear hD13 hp13 hx13
      generalize (durAt s.pend torn ord s.dur ord.length) = bn at hlk H13 R HC
      have HK := Aside0.mk hlk
      clear hlk
      refine wp_region_held_drew (S := (fun Wq => Wq.cell? ⟨W.heap.size, 0, none⟩ = some (.pointer (some ⟨d, 0, none⟩)) ∧ Wq.cell? ⟨d, 2, none⟩ = some (.slice (some ⟨g1, 0, none⟩) s.dur.length s.dur.length) ∧ Wq.cell? ⟨d, 3, none⟩ = some (.slice (some ⟨g2, 0, none⟩) s.dur.length s.dur.length))) (by kernel_rfl) (by (try dsimp only); first | (have q2 := H7.out.1.dk.h0.c2; have q3 := H7.out.1.dk.h0.c3; dsimp only at q2 q3; rw [HK.out] at q2 q3; exact ⟨cell_of_heap H7.out.2 0, q2, q3⟩) | (have q2 := H13.out.1.c2; have q3 := H13.out.1.c3; rw [HK.out] at q2 q3; exact ⟨cell_of_heap H13.out.2.2 0, q2, q3⟩)) (fun hHeld => ?_)
      first | refine reg_tk 0 ?_ | refine reg_sk 0 ?_ | fail
      (try simp only [Act.put, List.setIfInBounds_toArray, List.set_cons_zero, List.set_cons_succ])
      first | refine reg_tk 1 ?_ | refine reg_sk 1 ?_ | fail
      (try simp only [Act.put, List.setIfInBounds_toArray, List.set_cons_zero, List.set_cons_succ])
      first | refine reg_tk 2 ?_ | refine reg_sk 2 ?_ | fail
      (try simp only [Act.put, List.setIfInBounds_toArray, List.set_cons_zero, List.set_cons_succ])
      first | refine reg_tk 3 ?_ | refine reg_sk 3 ?_ | fail
      (try simp only [Act.put, List.setIfInBounds_toArray, List.set_cons_zero, List.set_cons_succ])
      first | refine reg_tk 4 ?_ | refine reg_sk 4 ?_ | fail
      (try simp only [Act.put, List.setIfInBounds_toArray, List.set_cons_zero, List.set_cons_succ])
      first | refine reg_tk 5 ?_ | refine reg_sk 5 ?_ | fail
      (try simp only [Act.put, List.setIfInBounds_toArray, List.set_cons_zero, List.set_cons_succ])
      first | refine reg_tk 6 ?_ | refine reg_sk 6 ?_ | fail
      (try simp only [Act.put, List.setIfInBounds_toArray, List.set_cons_zero, List.set_cons_succ])
      first | refine reg_tk 7 ?_ | refine reg_sk 7 ?_ | fail
      (try simp only [Act.put, List.setIfInBounds_toArray, List.set_cons_zero, List.set_cons_succ])
      first | refine reg_tk 8 ?_ | refine reg_sk 8 ?_ | fail
      (try simp only [Act.put, List.setIfInBounds_toArray, List.set_cons_zero, List.set_cons_succ])
      first | refine reg_sk 9 ?_ | (refine reg_one 9 (fun KK_ hKK_ => ?_); go_simp; (go_at_call 28; refine (settle_calls H13.out.1 H13.out.2.1 H13.out.1.h1 H13.out.1.h2 HK.out (H13.out.1.len.trans HK.out) (.inr rfl) (H13.out.1.vis_ rfl)).mono ?_; rintro e W7 ⟨rfl, pv7, hst⟩; have hx7 := crash_box hst H13.out.1 H13.out.2.1 H13.out.2.2; have H7 := Aside0.mk (And.intro hst hx7); clear hst hx7); refine hKK_.out _ _ (by (try dsimp only); first | (have q2 := H7.out.1.dk.h0.c2; have q3 := H7.out.1.dk.h0.c3; dsimp only at q2 q3; rw [HK.out] at q2 q3; exact ⟨cell_of_heap H7.out.2 0, q2, q3⟩) | (have q2 := H13.out.1.c2; have q3 := H13.out.1.c3; rw [HK.out] at q2 q3; exact ⟨cell_of_heap H13.out.2.2 0, q2, q3⟩)) (fun hHeld => ?_); clear hKK_ KK_) | fail
      (try simp only [Act.put, List.setIfInBounds_toArray, List.set_cons_zero, List.set_cons_succ])
      refine wpAnyH_done (by kernel_rfl) ?_ _
      have x0 := cell_of_heap H7.out.2 0
      have d0 := H7.out.1.dk.h0.c0
      have d1 := H7.out.1.dk.h0.c1
      have f0 := frozen_of_heap H7.out.1.dk.h0.hd 0
      have f1 := frozen_of_heap H7.out.1.dk.h0.hd 1
      go_wp2
      go_returns
      rw [← hpv]
      refine ⟨rfl, pv7, ?_⟩
      rw [HC.out]
      have st1 : Step W5 base d g1 g2 pv ⟨s.off, s.left, bn, s.vis, s.pend⟩ wr pv := ⟨⟨R.out.1, R.out.2.2.2.1⟩, .inl rfl, R.out.2.2.1, R.out.2.1.mono (fun q hq => .inl (.inr (.inl hq)))⟩
      have st2 := H7.out.1.after (below_drew (Below.refl _ wr)) R.out.1.bw
      have st3 := Step.power H7.out.1.dk ((H7.out.1.dk.h0.put_ 0 (.bool false) pv7 false s.left rfl).put_ 1 (.int .i64 0) pv7 false 0 rfl) (((Below.refl base W7).setCell (p := ⟨d, 0, none⟩) H7.out.1.dk.h0.bd _).setCell (p := ⟨d, 1, none⟩) H7.out.1.dk.h0.bd _) (((KeepBut.refl W7 d none).set_ 0 _).set_ 1 _)
      exact ((st1.after H4.out.2.1 H.out.h0.bw).then_ st2).then_ st3
end
end Go.Proofs.Ytmonlhgfgnfbdaa
