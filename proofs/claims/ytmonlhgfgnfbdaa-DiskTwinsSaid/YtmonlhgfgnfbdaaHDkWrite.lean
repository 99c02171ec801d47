/- Write, Sync and Cut of a disk; the calls on a nil disk. -/
import Derived.Test.YtmonlhgfgnfbdaaHDkMeth
import Derived.Maps.AppendAt
namespace Go.Proofs.Ytmonlhgfgnfbdaa
open Go.RowKit Go.Proofs.YtmonlhgfgnfbdaaW.PrintWords Go.Proofs.YtmonlhgfgnfbdaaW.PrintLast Go.Proofs.YtmonlhgfgnfbdaaW.PrintMore
set_option linter.unusedVariables false
set_option linter.unusedSimpArgs false
set_option maxHeartbeats 8000000
set_option maxRecDepth 100000
theorem kept_below {W W' : World} (h : Below W.heap.size W W') (S : Nat → Prop) : Kept W W' S := Kept.of_below h S
theorem Step.refl {W : World} {base d g1 g2 : Nat} {pv : Value} {s : DD} (h : Dk W base d g1 g2 pv s) : Step W base d g1 g2 pv s W pv := ⟨h, .inl rfl, Below.refl _ _, Kept.refl _ _⟩
theorem Step.after {W W1 W' : World} {base d g1 g2 : Nat} {pv pv' : Value} {s' : DD} (hb : Below W.heap.size W W1) (hbase : base ≤ W.heap.size) (h : Step W1 base d g1 g2 pv s' W' pv') : Step W base d g1 g2 pv s' W' pv' :=
  ⟨h.dk, h.own.imp id (fun hk k he => Nat.le_trans hb.size (hk k he)), (hb.mono hbase).trans h.bel, (Kept.of_below hb _).then_ h.kept (fun k hk => .inl hk)⟩
theorem Step.then_ {W W1 W2 : World} {base d g1 g2 : Nat} {pv pv1 pv2 : Value} {s1 s2 : DD} (h1 : Step W base d g1 g2 pv s1 W1 pv1) (h2 : Step W1 base d g1 g2 pv1 s2 W2 pv2) : Step W base d g1 g2 pv s2 W2 pv2 := by
  refine ⟨h2.dk, ?_, h1.bel.trans h2.bel, h1.kept.then_ h2.kept ?_⟩
  · rcases h2.own with e2 | e2
    · rw [e2]
      exact h1.own
    · exact .inr fun k hk => Nat.le_trans h1.kept.1 (e2 k hk)
  · rintro k (hk | hk)
    · exact .inl (.inl hk)
    · rcases h1.own with e1 | e1
      · exact .inl (.inr (e1 ▸ hk))
      · exact .inr (e1 k hk)
theorem write_info : (Try.prog.info? 56).map (fun i => (i.zero, i.size, i.bytes)) = some (some (.agg #[.int .i64 0, .string ⟨#[]⟩]), 2, 24) := by kernel_rfl
/-- a write is appended to the pending ones -/
theorem append_wr {W : World} {base g : Nat} {pv : Value} {p : List Wr} (hp : Pn W base pv p) (x : Wr) (hg : W.heap[g]? = some (.cells #[.int .i64 x.off, .string x.s] 56 (0, 0))) (hl : p.length ≤ 100000) (hbase : base ≤ W.heap.size) (ty : TypeId) :
    ∃ pv' W', (Builtin.append_ #[52, 52] ty #[pv, .slice (some ⟨g, 0, none⟩) 1 1]).run Try.prog W = .ok pv' W' ∧ Pn W' base pv' (p ++ [x]) ∧ W.grownBy W' pv.ownBlock ∧ (pv'.ownBlock = pv.ownBlock ∨ pv'.ownBlock = some W.heap.size) := by
  obtain ⟨i, hi, hzz⟩ := Option.map_eq_some_iff.1 write_info
  simp only [Prod.mk.injEq] at hzz
  obtain ⟨hz, hs, hb⟩ := hzz
  obtain ⟨v', w', hr, h2, h3, _, h5⟩ := run_append_own_at (P := Try.prog) W base 52 ty 56 i _ 2 24 Try.underlying52 hi hz hs hb (by rfl) (by omega) pv p.length (pcells p) hp ⟨g, 0, none⟩ 1 1 [.int .i64 x.off, .string x.s] rfl (by
    intro j u hj
    rw [show (⟨g, 0, none⟩ : Addr).add j = ⟨g, j, none⟩ from by unfold Addr.add; split <;> simp_all, cell_of_heap hg, ← hj]
    simp) (by
    intro u hu
    simp only [List.mem_cons, List.not_mem_nil, or_false] at hu
    rcases hu with rfl | rfl <;> rfl) (by unfold maxLen; omega) (by omega) hbase
  refine ⟨v', w', hr, ?_, h3, h5⟩
  unfold Pn
  rw [pcells_snoc, List.length_append]
  exact h2
theorem wp_append_wr {W : World} {base g : Nat} {pv : Value} {p : List Wr} {o : Oper} {a : Act} {K : Act → World → Prop} {Q : Exit → Act → World → Prop} {u y : Operand} {q : Nat → Option Bool} {e : Prop}
    (ho : o.op = .call { callee := .builtin .append, args := #[u, y], argTypes := #[52, 52] }) (hgd : o.guard = none) (h1 : a.eval u = pv) (h2 : a.eval y = .slice (some ⟨g, 0, none⟩) 1 1)
    (hp : Pn W base pv p) (x : Wr) (hg : W.heap[g]? = some (.cells #[.int .i64 x.off, .string x.s] 56 (0, 0))) (hl : p.length ≤ 100000) (hbase : base ≤ W.heap.size)
    (h : ∀ pv' W', Pn W' base pv' (p ++ [x]) → W.grownBy W' pv.ownBlock → (pv'.ownBlock = pv.ownBlock ∨ pv'.ownBlock = some W.heap.size) → K (a.put o.dst pv') W') : if Region.wanted o q = true then o.wp Try.prog a W K Q else e := by
  rw [if_pos (by simp [Region.wanted, hgd])]
  obtain ⟨pv', W', hr, g1, g2, g3⟩ := append_wr hp x hg hl hbase o.type
  unfold Oper.wp
  simp [execOp, ho, resolve, invoke, builtin, h1, h2, hr, Result.andThen]
  exact h pv' W' g1 g2 g3
section
variable {W : World} {base d g1 g2 : Nat} {pv : Value} {s : DD}
def syncE (s : DD) : Int := if s.off then 231 else 0
def syncS (s : DD) : DD := if s.off then s else ⟨s.off, s.left, s.vis, s.vis, []⟩
theorem sync_calls (h : Dk W base d g1 g2 pv s) : Calls Try.prog 19 #[.pointer (some ⟨d, 0, none⟩)] W fun e W' => e = .returned (.int .i64 (syncE s)) ∧ ∃ pv', Step W base d g1 g2 pv (syncS s) W' pv' := by
  have hu := Try.underlying54
  have H := Aside0.mk h
  have HD := Aside0.mk (h.below (below_drew (Below.refl _ W)))
  clear h
  unfold syncE syncS
  go_enter Try.func19, Try.ntmps19
  cases ho : s.off
  · go_upto_region 3 with (first | (go_at_call 24; refine (check_calls H.out).mono ?_; rintro e W' ⟨rfl, hW⟩; subst hW; rw [ho]))
    refine wp_region_held_drew (S := (fun W' => W'.cell? ⟨d, 2, none⟩ = some (.slice (some ⟨g1, 0, none⟩) s.dur.length s.dur.length) ∧ W'.cell? ⟨d, 3, none⟩ = some (.slice (some ⟨g2, 0, none⟩) s.dur.length s.dur.length))) (by kernel_rfl) (by (try dsimp only); first | exact ⟨HD.out.h0.c2, HD.out.h0.c3⟩ | (have hl := HD.out.h0.len; have q2 := HS.out.dk.h0.c2; have q3 := HS.out.dk.h0.c3; dsimp only at q2 q3; rw [hl] at q2 q3; exact ⟨q2, q3⟩)) (fun hHeld => ?_)
    first | refine reg_tk 0 ?_ | refine reg_sk 0 ?_ | fail
    (try simp only [Act.put, List.setIfInBounds_toArray, List.set_cons_zero, List.set_cons_succ])
    first | refine reg_tk 1 ?_ | refine reg_sk 1 ?_ | fail
    (try simp only [Act.put, List.setIfInBounds_toArray, List.set_cons_zero, List.set_cons_succ])
    first | refine reg_tk 2 ?_ | refine reg_sk 2 ?_ | fail
    (try simp only [Act.put, List.setIfInBounds_toArray, List.set_cons_zero, List.set_cons_succ])
    first | refine reg_tk 3 ?_ | refine reg_sk 3 ?_ | fail
    (try simp only [Act.put, List.setIfInBounds_toArray, List.set_cons_zero, List.set_cons_succ])
    first | refine reg_tk 4 ?_ | refine reg_sk 4 ?_ | fail
    (try simp only [Act.put, List.setIfInBounds_toArray, List.set_cons_zero, List.set_cons_succ])
    first | refine reg_tk 5 ?_ | refine reg_sk 5 ?_ | fail
    (try simp only [Act.put, List.setIfInBounds_toArray, List.set_cons_zero, List.set_cons_succ])
    first | refine reg_tk 6 ?_ | refine reg_sk 6 ?_ | fail
    (try simp only [Act.put, List.setIfInBounds_toArray, List.set_cons_zero, List.set_cons_succ])
    first | refine reg_tk 7 ?_ | refine reg_sk 7 ?_ | fail
    (try simp only [Act.put, List.setIfInBounds_toArray, List.set_cons_zero, List.set_cons_succ])
    first | refine reg_tk 8 ?_ | refine reg_sk 8 ?_ | fail
    (try simp only [Act.put, List.setIfInBounds_toArray, List.set_cons_zero, List.set_cons_succ])
    first | refine reg_sk 9 ?_ | (refine reg_one 9 (fun KK_ hKK_ => ?_); go_simp; (go_at_call 28; refine (settle_calls HD.out.h0 HD.out.hp HD.out.h0.h2 HD.out.h0.h1 HD.out.h0.len rfl (.inl rfl) (HD.out.h0.dur_ HD.out.h0.len)).mono ?_; rintro e W1 ⟨rfl, pv1, hst⟩; have HS := Aside0.mk hst; clear hst); refine hKK_.out _ _ (by (try dsimp only); first | exact ⟨HD.out.h0.c2, HD.out.h0.c3⟩ | (have hl := HD.out.h0.len; have q2 := HS.out.dk.h0.c2; have q3 := HS.out.dk.h0.c3; dsimp only at q2 q3; rw [hl] at q2 q3; exact ⟨q2, q3⟩)) (fun hHeld => ?_); clear hKK_ KK_) | fail
    (try simp only [Act.put, List.setIfInBounds_toArray, List.set_cons_zero, List.set_cons_succ])
    refine wpAnyH_done (by kernel_rfl) ?_ _
    go_wp2
    go_returns
    have hs := HS.out
    rw [ho] at hs
    exact ⟨rfl, _, hs.after (below_drew (Below.refl _ _)) H.out.h0.bw⟩
  · go_wp2_with (first | (go_at_call 24; refine (check_calls H.out).mono ?_; rintro e W' ⟨rfl, hW⟩; subst hW; rw [ho]))
    go_returns
    exact ⟨rfl, pv, Step.refl H.out⟩
theorem Pn.setD {off : Bool} {left : Nat} {dur vis : List UInt8} {p : List Wr} (h : D0 W base d g1 g2 pv off left dur vis) {v : Value} (hp : Pn W base v p) (j : Nat) (u : Value) : Pn (W.setCell ⟨d, j, none⟩ u) base v p :=
  own_kept hp ((Kept.refl W (fun k => k = d)).setCell (p := ⟨d, j, none⟩) (.inl rfl) u) (fun k hk e => by
    subst e
    exact own_ne hp h.hd (by decide) hk)
theorem Step.visS (h : Dk W base d g1 g2 pv s) {v : List UInt8} (hv : v.length = s.dur.length) : Step W base d g1 g2 pv ⟨s.off, s.left, s.dur, v, s.pend⟩ (W.setRow g2 (bcells v)) pv :=
  ⟨⟨h.h0.vis_ hv, own_kept h.hp ((Kept.refl W (fun k => k = g2)).of_keep (keep_row W g2 _) (.inl rfl)) (fun k hk e => by
    subst e
    exact own_ne h.hp h.h0.h2 (by decide) hk)⟩, .inl rfl, below_row (Below.refl _ _) h.h0.b2 _, (Kept.refl W _).of_keep (keep_row W g2 _) (.inl (.inl (.inr (.inr rfl))))⟩
theorem Step.power {W' : World} {off' : Bool} {left' : Nat} (h : Dk W base d g1 g2 pv s) (h' : D0 W' base d g1 g2 pv off' left' s.dur s.vis) (hb : Below base W W') (hk : KeepBut W W' d none) : Step W base d g1 g2 pv ⟨off', left', s.dur, s.vis, s.pend⟩ W' pv :=
  ⟨⟨h', own_kept h.hp ((Kept.refl W (fun k => k = d)).of_keep hk (.inl rfl)) (fun k hq e => by
    subst e
    exact own_ne h.hp h.h0.hd (by decide) hq)⟩, .inl rfl, hb, (Kept.refl W _).of_keep hk (.inl (.inl (.inl rfl)))⟩
def cutE (s : DD) (n : Int) : Int := if s.off then 231 else if n < 0 then 2 else 0
def cutS (s : DD) (n : Int) : DD := if s.off then s else if n < 0 then s else ⟨n == 0, n.toNat, s.dur, s.vis, s.pend⟩
theorem cut_calls (h : Dk W base d g1 g2 pv s) (n : Int) : Calls Try.prog 20 #[.pointer (some ⟨d, 0, none⟩), .int .i64 n] W fun e W' => e = .returned (.int .i64 (cutE s n)) ∧ ∃ pv', Step W base d g1 g2 pv (cutS s n) W' pv' := by
  have hu := Try.underlying54
  have hu2 := Try.underlying51
  have c0 := h.h0.c0
  have c1 := h.h0.c1
  have f0 := frozen_of_heap h.h0.hd 0
  have f1 := frozen_of_heap h.h0.hd 1
  have H := Aside0.mk h
  clear h
  cases ho : s.off
  · by_cases hn : n < 0
    · have d1 : decide (n < 0) = true := decide_eq_true hn
      rw [show cutE s n = 2 from by simp [cutE, ho, hn], show cutS s n = s from by simp [cutS, ho, hn]]
      go_enter Try.func20, Try.ntmps20
      go_wp2_with (first | (go_at_call 24; refine (check_calls H.out).mono ?_; rintro e W' ⟨rfl, hW⟩; subst hW; rw [ho]))
      go_returns
      exact ⟨rfl, pv, Step.refl H.out⟩
    · have d1 : decide (n < 0) = false := decide_eq_false hn
      obtain ⟨m, rfl⟩ : ∃ m : Nat, n = m := ⟨n.toNat, by omega⟩
      rw [show cutE s (m : Int) = 0 from by simp [cutE, ho, hn], show cutS s (m : Int) = ⟨(m : Int) == 0, m, s.dur, s.vis, s.pend⟩ from by simp [cutS, ho, hn]]
      go_enter Try.func20, Try.ntmps20
      go_wp2_with (first | (go_at_call 24; refine (check_calls H.out).mono ?_; rintro e W' ⟨rfl, hW⟩; subst hW; rw [ho]))
      go_returns
      exact ⟨rfl, pv, Step.power H.out ((H.out.h0.put_ 0 _ pv ((m : Int) == 0) s.left rfl).put_ 1 _ pv _ m rfl) (((Below.refl base _).setCell (p := ⟨d, 0, none⟩) H.out.h0.bd _).setCell (p := ⟨d, 1, none⟩) H.out.h0.bd _) (((KeepBut.refl _ d none).set_ 0 _).set_ 1 _)⟩
  · rw [show cutE s n = 231 from by simp [cutE, ho], show cutS s n = s from by simp [cutS, ho]]
    go_enter Try.func20, Try.ntmps20
    go_wp2_with (first | (go_at_call 24; refine (check_calls H.out).mono ?_; rintro e W' ⟨rfl, hW⟩; subst hW; rw [ho]))
    go_returns
    exact ⟨rfl, pv, Step.refl H.out⟩
def writeE (s : DD) (o : Int) (t : ByteArray) : Int := if s.off then 231 else if ins s o t.size then 0 else 230
def writeS (s : DD) (o : Int) (t : ByteArray) : DD := if s.off then s else if ins s o t.size then ⟨usedOff s.off s.left, usedLeft s.left, s.dur, over s.vis o.toNat (strL t), s.pend ++ [⟨o.toNat, t⟩]⟩ else s
theorem write_calls (h : Dk W base d g1 g2 pv s) (hl : s.left ≤ 1000000) (hpl : s.pend.length ≤ 100000) (o : Int) (t : ByteArray) : Calls Try.prog 17 #[.pointer (some ⟨d, 0, none⟩), .int .i64 o, .string t] W fun e W' =>
    e = .returned (.int .i64 (writeE s o t)) ∧ ∃ pv', Step W base d g1 g2 pv (writeS s o t) W' pv' := by
  have hu := Try.underlying54
  have hu2 := Try.underlying56
  have H := Aside0.mk h
  clear h
  cases ho : s.off
  · cases hi : ins s o t.size
    · rw [show writeE s o t = 230 from by simp [writeE, ho, hi], show writeS s o t = s from by simp [writeS, ho, hi]]
      go_enter Try.func17, Try.ntmps17
      go_wp2_with (first | (go_at_call 25; refine (inside_calls H.out o (t.size : Int)).mono ?_; rintro e W' ⟨rfl, hW⟩; subst hW; rw [hi]) | (go_at_call 24; refine (check_calls H.out).mono ?_; rintro e W' ⟨rfl, hW⟩; subst hW; rw [ho]))
      go_returns
      exact ⟨rfl, pv, Step.refl H.out⟩
    · have hi2 := hi
      simp only [ins, Bool.and_eq_true, decide_eq_true_eq] at hi2
      obtain ⟨⟨⟨i1, i2⟩, i3⟩, i4⟩ := hi2
      obtain ⟨k, rfl⟩ : ∃ k : Nat, o = k := ⟨o.toNat, by omega⟩
      have i5 : k + t.size ≤ s.dur.length := by omega
      clear i1 i2 i3 i4
      rw [show writeE s (k : Int) t = 0 from by simp [writeE, ho, hi], show writeS s (k : Int) t = ⟨usedOff s.off s.left, usedLeft s.left, s.dur, over s.vis k (strL t), s.pend ++ [⟨k, t⟩]⟩ from by simp [writeS, ho, hi]]
      go_enter Try.func17, Try.ntmps17
      go_upto_region 7 with (first | (go_at_call 25; refine (inside_calls H.out (k : Int) (t.size : Int)).mono ?_; rintro e W' ⟨rfl, hW⟩; subst hW; rw [hi]) | (go_at_call 24; refine (check_calls H.out).mono ?_; rintro e W' ⟨rfl, hW⟩; subst hW; rw [ho]))
      have hB0 : Below W'.heap.size W' (W'.alloc (.cells #[.int .i64 k, .string t] 56)).drew := below_drew (below_alloc (Below.refl _ _) _)
      have hbx : (W'.alloc (.cells #[.int .i64 k, .string t] 56)).drew.heap[W'.heap.size]? = some (.cells #[.int .i64 k, .string t] 56) := heap_alloc_new W' (.cells #[.int .i64 k, .string t] 56)
      have hlt : W'.heap.size < (W'.alloc (.cells #[.int .i64 k, .string t] 56)).drew.heap.size := heap_lt hbx
      have HD := Aside0.mk (H.out.below hB0)
      have hfr : ∀ k, pv.ownBlock = some k → k < W'.heap.size := fun k hk => (H.out.lt k (.inr hk)).2
      have hp4 := HD.out.h0.c4
      have hb00 := cell_of_heap hbx 0
      have hb01 := cell_of_heap hbx 1
      refine wp_region_Z 10 (S := (fun Wq => Wq.cell? ⟨d, 4, none⟩ = some pv ∧ Wq.cell? ⟨W'.heap.size, 0, none⟩ = some (.int .i64 k) ∧ Wq.cell? ⟨W'.heap.size, 1, none⟩ = some (.string t))) (by kernel_rfl) (by (try dsimp only); exact ⟨hp4, hb00, hb01⟩) (fun hHeld => ?_)
      obtain ⟨WD, hWD⟩ : ∃ W1, (W'.alloc (.cells #[.int .i64 k, .string t] 56)).drew = W1 := ⟨_, rfl⟩
      rw [hWD] at hHeld HD hbx hlt hB0 ⊢
      refine regz_tk 0 ?_
      (try simp only [Act.put, List.setIfInBounds_toArray, List.set_cons_zero, List.set_cons_succ])
      refine regz_tk 1 ?_
      (try simp only [Act.put, List.setIfInBounds_toArray, List.set_cons_zero, List.set_cons_succ])
      refine regz_tk 2 ?_
      (try simp only [Act.put, List.setIfInBounds_toArray, List.set_cons_zero, List.set_cons_succ])
      refine regz_tk 3 ?_
      (try simp only [Act.put, List.setIfInBounds_toArray, List.set_cons_zero, List.set_cons_succ])
      refine regz_tk 4 ?_
      (try simp only [Act.put, List.setIfInBounds_toArray, List.set_cons_zero, List.set_cons_succ])
      refine regz_tk 5 ?_
      (try simp only [Act.put, List.setIfInBounds_toArray, List.set_cons_zero, List.set_cons_succ])
      refine regz_one 6 (fun KK_ hKK_ => ?_)
      go_simp
      have hgl := heap_alloc_new WD (.cells #[.int .i64 k, .string t] 56)
      have HB1 : Below WD.heap.size WD (WD.alloc (.cells #[.int .i64 k, .string t] 56)) := below_alloc (Below.refl _ _) _
      have hWs : WD.heap.size ≤ (WD.alloc (.cells #[.int .i64 k, .string t] 56)).heap.size := HB1.size
      generalize WD.alloc (.cells #[.int .i64 k, .string t] 56) = W1 at hgl HB1 hWs ⊢
      have HD1 := Aside0.mk (HD.out.below HB1)
      have hb1 := (HB1.block W'.heap.size hlt).trans hbx
      refine hKK_.out _ _ ⟨HD1.out.h0.c4, cell_of_heap hb1 0, cell_of_heap hb1 1⟩ (fun hHeld => ?_)
      clear hKK_ KK_
      (try simp only [Act.put, List.setIfInBounds_toArray, List.set_cons_zero, List.set_cons_succ])
      refine regz_one 7 (fun KK_ hKK_ => ?_)
      refine wp_append_wr rfl rfl rfl rfl HD1.out.hp ⟨k, t⟩ hgl hpl HD1.out.h0.bw ?_
      intro pv' W2 hp2 hgr hown
      obtain ⟨A', n', c', rfl⟩ : ∃ A n c, pv' = .slice A n c := ⟨_, _, _, (Pn.slice hp2).choose_spec.choose_spec.1⟩
      have hK2 : Kept W1 W2 (fun q => pv.ownBlock = some q) := Kept.of_grown hgr (Kept.refl _ _) (fun q hq => .inl hq)
      have hd2 := HD1.out.h0.kept hK2 (fun q hq hq2 => by
        rcases hq with rfl | rfl | rfl
        · exact own_ne HD1.out.hp HD1.out.h0.hd (by decide) hq2
        · exact own_ne HD1.out.hp HD1.out.h0.h1 (by decide) hq2
        · exact own_ne HD1.out.hp HD1.out.h0.h2 (by decide) hq2)
      have hb2 := (hK2.2 W'.heap.size (heap_lt hb1) (fun e => Nat.lt_irrefl _ (hfr _ e))).trans hb1
      have f4 := frozen_of_heap hd2.hd 4
      have HD2 := Aside0.mk (And.intro hd2 hp2)
      clear hd2 hp2
      refine hKK_.out _ _ ⟨HD2.out.1.c4, cell_of_heap hb2 0, cell_of_heap hb2 1⟩ (fun hHeld => ?_)
      clear hKK_ KK_
      (try simp only [Act.put, List.setIfInBounds_toArray, List.set_cons_zero, List.set_cons_succ])
      refine regz_one 8 (fun KK_ hKK_ => ?_)
      go_simp
      refine hKK_.out _ _ hHeld (fun hHeld => ?_)
      clear hKK_ KK_
      (try simp only [Act.put, List.setIfInBounds_toArray, List.set_cons_zero, List.set_cons_succ])
      refine regz_tk 9 ?_
      (try simp only [Act.put, List.setIfInBounds_toArray, List.set_cons_zero, List.set_cons_succ])
      refine regz_last (fun KK_ hKK_ => ?_)
      go_simp
      refine hKK_.out _ _ ?_
      clear hKK_ KK_
      (try simp only [Act.put, List.setIfInBounds_toArray, List.set_cons_zero, List.set_cons_succ])
      refine wpAnyZ_done (by kernel_rfl) ?_ _
      have hne3 : W'.heap.size ≠ d := fun e => Nat.lt_irrefl _ (e ▸ (H.out.h0.lt d (.inl rfl)).2)
      have hb3 := (Below.heap_setCell W2 ⟨d, 4, none⟩ (.slice A' n' c') W'.heap.size hne3).trans hb2
      have H3 : Aside0 (Step W' base d g1 g2 pv ⟨s.off, s.left, s.dur, s.vis, s.pend ++ [⟨k, t⟩]⟩ (W2.setCell ⟨d, 4, none⟩ (.slice A' n' c')) (.slice A' n' c')) := Aside0.mk ⟨⟨HD2.out.1.put_ 4 _ (.slice A' n' c') _ _ rfl, Pn.setD HD2.out.1 HD2.out.2 4 _⟩, hown.imp id (fun e q hq => by
        rw [e] at hq
        injection hq with hq
        subst hq
        exact Nat.le_trans hB0.size hWs), ((((hB0.trans (HB1.mono hB0.size)).mono H.out.h0.bw).grown hgr HD1.out.h0.bw (fun q hq => (H.out.lt q (.inr hq)).1)).setCell (p := ⟨d, 4, none⟩) H.out.h0.bd _), ((((Kept.of_below hB0 _).then_ (Kept.of_below HB1 (fun _ => False)) (fun _ hf => hf.elim)).then_ hK2 (fun q hq => .inl (.inr hq))).setCell (p := ⟨d, 4, none⟩) (.inl (.inl (.inl rfl))) _)⟩
      generalize W2.setCell ⟨d, 4, none⟩ (.slice A' n' c') = W3 at hb3 H3 ⊢
      have hlt3 := heap_lt hb3
      clear HD2 HD1 HD hB0 HB1 hgr hK2 hbx hgl hb1 hb2 hHeld hown f4 hp4 hb00 hb01 hWD hWs hfr hlt
      go_upto_region 8 with fail
      have H4 := Aside0.mk (H3.out.dk.below (below_drew (Below.refl _ W3)))
      have hb4 : W3.drew.heap[W'.heap.size]? = some (.cells #[.int .i64 k, .string t] 56 (0, 0)) := hb3
      have hv := H3.out.dk.h0.len
      dsimp only at hv
      refine wp_region_held_drew (S := (fun Wq => Wq.cell? ⟨d, 3, none⟩ = some (.slice (some ⟨g2, 0, none⟩) s.dur.length s.dur.length) ∧ Wq.cell? ⟨W'.heap.size, 0, none⟩ = some (.int .i64 k) ∧ Wq.cell? ⟨W'.heap.size, 1, none⟩ = some (.string t))) (by kernel_rfl) (by (try dsimp only); first | exact ⟨H6.out.dk.h0.c3, cell_of_heap hb6 0, cell_of_heap hb6 1⟩ | exact ⟨H4.out.h0.c3, cell_of_heap hb4 0, cell_of_heap hb4 1⟩) (fun hHeld => ?_)
      first | refine reg_tk 0 ?_ | refine reg_sk 0 ?_ | fail
      (try simp only [Act.put, List.setIfInBounds_toArray, List.set_cons_zero, List.set_cons_succ])
      first | refine reg_tk 1 ?_ | refine reg_sk 1 ?_ | fail
      (try simp only [Act.put, List.setIfInBounds_toArray, List.set_cons_zero, List.set_cons_succ])
      first | refine reg_tk 2 ?_ | refine reg_sk 2 ?_ | fail
      (try simp only [Act.put, List.setIfInBounds_toArray, List.set_cons_zero, List.set_cons_succ])
      first | refine reg_tk 3 ?_ | refine reg_sk 3 ?_ | fail
      (try simp only [Act.put, List.setIfInBounds_toArray, List.set_cons_zero, List.set_cons_succ])
      first | refine reg_tk 4 ?_ | refine reg_sk 4 ?_ | fail
      (try simp only [Act.put, List.setIfInBounds_toArray, List.set_cons_zero, List.set_cons_succ])
      first | refine reg_sk 5 ?_ | (refine reg_one 5 (fun KK_ hKK_ => ?_); go_simp; (go_at_call 26; refine (onto_calls2 H4.out.h0.h2 ⟨k, t⟩ hv (by rw [hv]; exact i5) (by rw [hv]; exact H4.out.h0.max)).mono ?_; rintro e W6 ⟨rfl, W5, hB5, hW6⟩; have hb5 := (hB5.block W'.heap.size hlt3).trans hb4; have H5 := Aside0.mk (H3.out.then_ ((Step.refl H4.out).after (below_drew (Below.refl _ W3)) H3.out.dk.h0.bw)); have H5b := Aside0.mk (H4.out.below hB5); have hne5 : W'.heap.size ≠ g2 := type_ne hb5 H5b.out.h0.h2 (by decide); have hb6 := (setRow_other W5 g2 W'.heap.size (bcells (over s.vis k (strL t))) hne5).trans hb5; have H6 := Aside0.mk (H5.out.then_ (((Step.visS H5b.out (v := over s.vis k (strL t)) (by rw [over_length (by rw [hv, strL_length]; exact i5)]; exact hv)).after hB5 H4.out.h0.bw))); rw [← hW6] at hb6 H6; clear hW6 H5 H5b hb5 hB5); refine hKK_.out _ _ (by (try dsimp only); first | exact ⟨H6.out.dk.h0.c3, cell_of_heap hb6 0, cell_of_heap hb6 1⟩ | exact ⟨H4.out.h0.c3, cell_of_heap hb4 0, cell_of_heap hb4 1⟩) (fun hHeld => ?_); clear hKK_ KK_) | fail
      (try simp only [Act.put, List.setIfInBounds_toArray, List.set_cons_zero, List.set_cons_succ])
      refine wpAnyH_done (by kernel_rfl) ?_ _
      go_wp2_with (first | (go_at_call 27; refine (used_calls H6.out.dk.h0 hl).mono ?_; rintro e W7 ⟨rfl, u1, u2, u3⟩; have H7 := Aside0.mk (H6.out.then_ (Step.power H6.out.dk u1 u2 u3)); clear u1 u2 u3))
      go_returns
      exact ⟨rfl, _, H7.out⟩
  · rw [show writeE s o t = 231 from by simp [writeE, ho], show writeS s o t = s from by simp [writeS, ho]]
    go_enter Try.func17, Try.ntmps17
    go_wp2_with (first | (go_at_call 24; refine (check_calls H.out).mono ?_; rintro e W' ⟨rfl, hW⟩; subst hW; rw [ho]))
    go_returns
    exact ⟨rfl, pv, Step.refl H.out⟩
end
end Go.Proofs.Ytmonlhgfgnfbdaa
