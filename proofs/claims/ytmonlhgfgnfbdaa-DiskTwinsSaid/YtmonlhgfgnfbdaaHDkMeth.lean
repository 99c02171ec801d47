/- The methods of a disk, each by what it does to the disk's state. -/
import Derived.Test.YtmonlhgfgnfbdaaHDkBase
import Derived.Test.YtmonlhgfgnfbdaaHRegStep
import Derived.Test.YtmonlhgfgnfbdaaHRegLast
namespace Go.Proofs.Ytmonlhgfgnfbdaa
open Go.RowKit Go.Proofs.YtmonlhgfgnfbdaaW.PrintWords Go.Proofs.YtmonlhgfgnfbdaaW.PrintLast Go.Proofs.YtmonlhgfgnfbdaaW.PrintMore
set_option linter.unusedVariables false
set_option linter.unusedSimpArgs false
set_option maxHeartbeats 8000000
set_option maxRecDepth 100000
section
variable {W : World} {base d g1 g2 : Nat} {pv : Value} {s : DD}
theorem size_calls (h : Dk W base d g1 g2 pv s) : Calls Try.prog 15 #[.pointer (some ⟨d, 0, none⟩)] W fun e W' => e = .returned (.int .i64 s.dur.length) ∧ W' = W := by
  have hu := Try.underlying54
  have h0 := h.h0.c2
  go_enter Try.func15, Try.ntmps15
  go_wp2
  go_ret
  exact ⟨rfl, rfl⟩
theorem size_nil (W : World) : Calls Try.prog 15 #[.pointer none] W fun e W' => e = .returned (.int .i64 0) ∧ W' = W := by
  go_enter Try.func15, Try.ntmps15
  go_wp2
  go_ret
  exact ⟨rfl, rfl⟩
theorem Pn.slice {W : World} {base : Nat} {pv : Value} {p : List Wr} (h : Pn W base pv p) : ∃ A c, pv = .slice A p.length c ∧ p.length ≤ c := by
  rcases h.2 with ⟨rfl, hn⟩ | ⟨g, cap, cur, rfl, hb, hg, hc, _⟩
  · exact ⟨none, 0, by rw [hn], by omega⟩
  · exact ⟨_, cap, rfl, hc⟩
theorem pending_calls (h : Dk W base d g1 g2 pv s) : Calls Try.prog 16 #[.pointer (some ⟨d, 0, none⟩)] W fun e W' => e = .returned (.int .i64 s.pend.length) ∧ W' = W := by
  have hu := Try.underlying54
  have h0 := h.h0.c4
  obtain ⟨A, c, hv, hc⟩ := h.hp.slice
  rw [hv] at h0
  go_enter Try.func16, Try.ntmps16
  go_wp2
  go_ret
  exact ⟨rfl, rfl⟩
theorem pending_nil (W : World) : Calls Try.prog 16 #[.pointer none] W fun e W' => e = .returned (.int .i64 0) ∧ W' = W := by
  go_enter Try.func16, Try.ntmps16
  go_wp2
  go_ret
  exact ⟨rfl, rfl⟩
theorem wp_copy_run {P : Program} {W W1 : World} {o : Oper} {a : Act} {K : Act → World → Prop} {Q : Exit → Act → World → Prop} {x y : Operand} {t1 t2 : TypeId} {v1 v2 v : Value} {q : Nat → Option Bool} {e : Prop}
    (ho : o.op = .call { callee := .builtin .copy, args := #[x, y], argTypes := #[t1, t2] }) (hgd : o.guard = none) (h1 : a.eval x = v1) (h2 : a.eval y = v2)
    (hr : (Builtin.copy_ #[t1, t2] o.type #[v1, v2]).run P W = .ok v W1) (h : K (a.put o.dst v) W1) : if Region.wanted o q = true then o.wp P a W K Q else e := by
  rw [if_pos (by simp [Region.wanted, hgd])]
  unfold Oper.wp
  simp [execOp, ho, resolve, invoke, builtin, h1, h2, hr, Result.andThen]
  exact h
theorem row_cell {W : World} {g b j : Nat} {cs : Array Value} (h : b ≠ g) : (W.setRow g cs).cell? ⟨b, j, none⟩ = W.cell? ⟨b, j, none⟩ := World.cell?_of_block (setRow_other W g b cs h)
/-- a write laid onto a row of bytes -/
theorem onto_calls {W : World} {g : Nat} {bs : List UInt8} (hg : W.heap[g]? = some (.cells (bcells bs) 5 (0, 0))) (x : Wr) (hx : x.off + x.s.size ≤ bs.length) (hm : bs.length ≤ 4194304) :
    Calls Try.prog 26 #[.agg #[.int .i64 x.off, .string x.s], .slice (some ⟨g, 0, none⟩) bs.length bs.length] W fun e W' =>
      e = .returned (.tuple #[]) ∧ ∃ W1, Below W.heap.size W W1 ∧ W' = W1.setRow g (bcells (over bs x.off (strL x.s))) := by
  have hu := Try.underlying56
  have hu2 := Try.underlying40
  have hlt := heap_lt hg
  go_enter Try.func26, Try.ntmps26
  go_upto_region 1 with fail
  have hB : Below W.heap.size W (W.alloc (.cells #[.int .i64 x.off, .string x.s] 56)) := below_alloc (Below.refl _ _) _
  have hbx := heap_alloc_new W (.cells #[.int .i64 x.off, .string x.s] 56)
  have hgD := (hB.block g hlt).trans hg
  have hb0 := cell_of_heap hbx 0
  have hb1 := cell_of_heap hbx 1
  have hne : g ≠ W.heap.size := Nat.ne_of_lt hlt
  have ho : (x.off : Int) ≤ bs.length := by omega
  have ho2 : x.off ≤ bs.length := by omega
  have HB := Aside0.mk hB
  clear hB hlt hm
  refine wp_region_held_drew (S := (fun W' => W'.cell? ⟨W.heap.size, 0, none⟩ = some (.int .i64 x.off) ∧ W'.cell? ⟨W.heap.size, 1, none⟩ = some (.string x.s))) (by kernel_rfl) (by (try dsimp only); exact ⟨hb0, hb1⟩) (fun hHeld => ?_)
  obtain ⟨WD, hWD⟩ : ∃ W1, (W.alloc (.cells #[.int .i64 x.off, .string x.s] 56)).drew = W1 := ⟨_, rfl⟩
  have hgD : WD.heap[g]? = some (.cells (bcells bs) 5 (0, 0)) := by
    rw [← hWD]
    exact hgD
  rw [hWD] at hHeld ⊢
  first | refine reg_tk 0 ?_ | refine reg_sk 0 ?_ | fail
  (try simp only [Act.put, List.setIfInBounds_toArray, List.set_cons_zero, List.set_cons_succ])
  first | refine reg_tk 1 ?_ | refine reg_sk 1 ?_ | fail
  (try simp only [Act.put, List.setIfInBounds_toArray, List.set_cons_zero, List.set_cons_succ])
  first | refine reg_tk 2 ?_ | refine reg_sk 2 ?_ | fail
  (try simp only [Act.put, List.setIfInBounds_toArray, List.set_cons_zero, List.set_cons_succ])
  first | refine reg_tk 3 ?_ | refine reg_sk 3 ?_ | fail
  (try simp only [Act.put, List.setIfInBounds_toArray, List.set_cons_zero, List.set_cons_succ])
  first | refine reg_tk 4 ?_ | refine reg_sk 4 ?_ | fail
  (try simp only [Act.put, List.setIfInBounds_toArray, List.set_cons_zero, List.set_cons_succ])
  first | refine reg_tk 5 ?_ | refine reg_sk 5 ?_ | fail
  (try simp only [Act.put, List.setIfInBounds_toArray, List.set_cons_zero, List.set_cons_succ])
  refine reg_one 6 (fun KK_ hKK_ => ?_)
  refine wp_copy_run rfl rfl rfl rfl (run_copy_str hgD x.off x.s hx _) ?_
  refine hKK_.out _ _ ⟨(row_cell (Ne.symm hne)).trans hHeld.1, (row_cell (Ne.symm hne)).trans hHeld.2⟩ (fun hHeld => ?_)
  clear hKK_ KK_
  (try simp only [Act.put, List.setIfInBounds_toArray, List.set_cons_zero, List.set_cons_succ])
  refine wpAnyH_done (by kernel_rfl) ?_ _
  generalize (if bs.length = x.off then some (⟨g, 0, none⟩ : Addr) else some ⟨g, x.off, none⟩) = E_
  go_wp2
  go_returns
  exact ⟨rfl, WD, hWD ▸ below_drew HB.out, rfl⟩
theorem onto_calls2 {W : World} {g n : Nat} {bs : List UInt8} (hg : W.heap[g]? = some (.cells (bcells bs) 5 (0, 0))) (x : Wr) (hn : bs.length = n) (hx : x.off + x.s.size ≤ bs.length) (hm : bs.length ≤ 4194304) :
    Calls Try.prog 26 #[.agg #[.int .i64 x.off, .string x.s], .slice (some ⟨g, 0, none⟩) n n] W fun e W' =>
      e = .returned (.tuple #[]) ∧ ∃ W1, Below W.heap.size W W1 ∧ W' = W1.setRow g (bcells (over bs x.off (strL x.s))) := by
  subst hn
  exact onto_calls hg x hx hm
theorem wpList_copy_run {P : Program} {W W1 : World} {ops : Array Oper} {rest : List Oper} {o : Oper} {a : Act} {Q : Exit → Act → World → Prop} (hgd : o.guard = none) {x y : Operand} {t1 t2 : TypeId} {v1 v2 v : Value}
    (ho : o.op = .call { callee := .builtin .copy, args := #[x, y], argTypes := #[t1, t2] }) (h1 : a.eval x = v1) (h2 : a.eval y = v2)
    (hr : (Builtin.copy_ #[t1, t2] o.type #[v1, v2]).run P W = .ok v W1) (h : wpList P ops Q rest (a.put o.dst v) W1) : wpList P ops Q (o :: rest) a W := by
  refine wpList_plain hgd fun K hK => ?_
  unfold Oper.wp
  simp [execOp, ho, resolve, invoke, builtin, h1, h2, hr, Result.andThen]
  exact hK _ _ h
theorem wpList_clear_run {P : Program} {W W1 : World} {ops : Array Oper} {rest : List Oper} {o : Oper} {a : Act} {Q : Exit → Act → World → Prop} (hgd : o.guard = none) {x : Operand} {t1 : TypeId} {v1 v : Value}
    (ho : o.op = .call { callee := .builtin .clear, args := #[x], argTypes := #[t1] }) (h1 : a.eval x = v1)
    (hr : (Builtin.clear_ #[t1] o.type #[v1]).run P W = .ok v W1) (h : wpList P ops Q rest (a.put o.dst v) W1) : wpList P ops Q (o :: rest) a W := by
  refine wpList_plain hgd fun K hK => ?_
  unfold Oper.wp
  simp [execOp, ho, resolve, invoke, builtin, h1, hr, Result.andThen]
  exact hK _ _ h
theorem write_zero : (zeroValue 56).run Try.prog W = .ok (.agg #[.int .i64 0, .string ⟨#[]⟩]) W := by
  go_simp
/-- clearing the pending writes -/
theorem run_clear {W : World} {base : Nat} {pv : Value} {p : List Wr} (hp : Pn W base pv p) (ty : TypeId) :
    ∃ W1, (Builtin.clear_ #[52] ty #[pv]).run Try.prog W = .ok (.tuple #[]) W1 ∧ Kept W W1 (fun k => pv.ownBlock = some k) ∧ Below base W W1 ∧
      ((pv = .slice none 0 0 ∧ W1 = W) ∨ ∃ g cap cur, pv = .slice (some ⟨g, 0, none⟩) p.length cap ∧ base ≤ g ∧ W1.heap[g]? = some (.cells cur 56 (0, 0)) ∧ cap ≤ maxLen ∧ cur.size = cap * 2) := by
  rcases hp.2 with ⟨rfl, hn⟩ | ⟨g, cap, cur, rfl, hb, hg, hc, hmx, hsz, hxs⟩
  · refine ⟨W, ?_, Kept.refl _ _, Below.refl _ _, .inl ⟨rfl, rfl⟩⟩
    simp [Builtin.clear_, run_underlying Try.underlying52]
  · by_cases h0 : p.length = 0
    · refine ⟨W, ?_, Kept.refl _ _, Below.refl _ _, .inr ⟨g, cap, cur, rfl, hb, hg, hmx, hsz⟩⟩
      rw [h0]
      simp [Builtin.clear_, run_underlying Try.underlying52]
    · have hz : (Value.agg #[.int .i64 0, .string ⟨#[]⟩]).cells.size = 2 := by rfl
      have hone : ∀ v ∈ (Builtin.zeroCells (Value.agg #[.int .i64 0, .string ⟨#[]⟩]).cells p.length).toList, v.oneCell' = true := by
        intro v hv
        simp only [Builtin.zeroCells, Array.toList_map, List.mem_map] at hv
        obtain ⟨i, _, rfl⟩ := hv
        rw [hz]
        rcases Nat.mod_two_eq_zero_or_one i with h | h <;> rw [h] <;> rfl
      have hl : (Builtin.zeroCells (Value.agg #[.int .i64 0, .string ⟨#[]⟩]).cells p.length).toList.length = p.length * 2 := by
        rw [Array.length_toList, size_zeroCells, hz]
      obtain ⟨cs, hst, hcs⟩ : ∃ cs : Array Value, (storeCells ⟨g, 0, none⟩ (Builtin.zeroCells (Value.agg #[.int .i64 0, .string ⟨#[]⟩]).cells p.length).toList).run Try.prog W = .ok () (W.setRow g cs) ∧ cs.size = cap * 2 :=
        ⟨_, run_storeCells_at Try.prog g 0 56 _ 0 cur W hg (by rw [hl]; omega) hone, by
          rw [List.size_toArray, List.length_append, List.length_append, List.length_take, List.length_drop, hl, Array.length_toList]
          omega⟩
      refine ⟨W.setRow g cs, ?_, (Kept.refl W _).of_keep (keep_row W g _) (.inl rfl), below_row (Below.refl _ _) hb _, .inr ⟨g, cap, cs, rfl, hb, setRow_heap W g _ _ _ _ hg, hmx, hcs⟩⟩
      obtain ⟨m, hm⟩ : ∃ m, p.length = m + 1 := ⟨p.length - 1, by omega⟩
      rw [hm] at hst ⊢
      simp [Builtin.clear_, run_underlying Try.underlying52, write_zero, hst]
/-- a content is made the durable and the visible one -/
theorem settle_calls {W : World} {pv : Value} {p : List Wr} {off : Bool} {left n gf gt : Nat} {dur vis x y dur' vis' : List UInt8} (h : D0 W base d g1 g2 pv off left dur vis) (hp : Pn W base pv p)
    (hf : W.heap[gf]? = some (.cells (bcells x) 5 (0, 0))) (ht : W.heap[gt]? = some (.cells (bcells y) 5 (0, 0))) (hx : x.length = n) (hy : y.length = n) (hgt : gt = g1 ∨ gt = g2)
    (hD : D0 (W.setRow gt (bcells x)) base d g1 g2 pv off left dur' vis') :
    Calls Try.prog 28 #[.pointer (some ⟨d, 0, none⟩), .slice (some ⟨gf, 0, none⟩) n n, .slice (some ⟨gt, 0, none⟩) n n] W fun e W' =>
      e = .returned (.tuple #[]) ∧ ∃ pv', Step W base d g1 g2 pv ⟨off, left, dur', vis', []⟩ W' pv' := by
  have hu := Try.underlying54
  have hu2 := Try.underlying52
  have hcp := run_copy_all ht hf hy hx 3
  have hpk : Kept W (W.setRow gt (bcells x)) (DF d g1 g2 pv) := (Kept.refl W _).of_keep (keep_row W gt _) (.inl (.inl (by rcases hgt with h | h; exact .inr (.inl h); exact .inr (.inr h))))
  have hbel : Below base W (W.setRow gt (bcells x)) := below_row (Below.refl _ _) (by rcases hgt with h1 | h1 <;> rw [h1]; exact h.b1; exact h.b2) _
  have hp1 : Pn (W.setRow gt (bcells x)) base pv p := own_kept hp ((Kept.refl W (fun k => k = gt)).of_keep (keep_row W gt _) (.inl rfl)) (fun k hk hkg => by
    subst hkg
    exact own_ne hp ht (by decide) hk)
  obtain ⟨W2, hcl, hk2, hb2, hcase⟩ := run_clear hp1 0
  have hD2 : D0 W2 base d g1 g2 pv off left dur' vis' := hD.kept hk2 (fun k hk hown => by
    rcases hk with rfl | rfl | rfl
    · exact own_ne hp1 hD.hd (by decide) hown
    · exact own_ne hp1 hD.h1 (by decide) hown
    · exact own_ne hp1 hD.h2 (by decide) hown)
  have hK2 : Kept W W2 (DF d g1 g2 pv) := hpk.then_ hk2 (fun k hk => .inl (.inr hk))
  have hB2 := hbel.trans hb2
  have c4 := hD.c4
  have c42 := hD2.c4
  have f4 := frozen_of_heap hD2.hd 4
  generalize W.setRow gt (bcells x) = W1 at hcp hcl c4
  rcases hcase with ⟨rfl, rfl⟩ | ⟨g, cap, cs, rfl, hbg, hg, hmx, hsz⟩
  · have HH := Aside0.mk (And.intro hD2 (And.intro hK2 hB2))
    clear h hp hf ht hD hpk hbel hp1 hk2 hb2 hD2 hK2 hB2
    go_enter Try.func28, Try.ntmps28
    go_wp2_with (at_builtin; first | refine wpList_copy_run rfl rfl rfl rfl hcp ?_ | refine wpList_clear_run rfl rfl rfl hcl ?_)
    go_returns
    exact ⟨rfl, .slice none 0 0, ⟨HH.out.1.put_ 4 _ _ off left rfl, World.ownsRow_nil _ _ _ _⟩, .inl rfl, HH.out.2.2.setCell (p := ⟨d, 4, none⟩) HH.out.1.bd _, HH.out.2.1.setCell (p := ⟨d, 4, none⟩) (.inl (.inl (.inl rfl))) _⟩
  · have HH := Aside0.mk (And.intro hD2 (And.intro hK2 (And.intro hB2 hg)))
    have hgd : g ≠ d := type_ne hg hD2.hd (by decide)
    clear h hp hf ht hD hpk hbel hp1 hk2 hb2 hD2 hK2 hB2 hg
    go_enter Try.func28, Try.ntmps28
    go_wp2_with (at_builtin; first | refine wpList_copy_run rfl rfl rfl rfl hcp ?_ | refine wpList_clear_run rfl rfl rfl hcl ?_)
    go_returns
    refine ⟨rfl, .slice (some ⟨g, 0, none⟩) 0 cap, ⟨HH.out.1.put_ 4 _ _ off left rfl, ?_⟩, .inl rfl, HH.out.2.2.1.setCell (p := ⟨d, 4, none⟩) HH.out.1.bd _, HH.out.2.1.setCell (p := ⟨d, 4, none⟩) (.inl (.inl (.inl rfl))) _⟩
    exact ⟨rfl, .inr ⟨g, cap, cs, rfl, hbg, (Below.heap_setCell _ _ _ g hgd).trans HH.out.2.2.2, Nat.zero_le _, hmx, hsz, rfl⟩⟩
theorem new_bad (W : World) (n : Int) (h : n < 1 ∨ 4194304 < n) : Calls Try.prog 12 #[.int .i64 n] W fun e W' => e = .returned (.tuple #[.pointer none, .int .i64 2]) ∧ W' = W := by
  go_enter Try.func12, Try.ntmps12
  by_cases h1 : n < 1
  · have d1 : decide (n < 1) = true := decide_eq_true h1
    go_wp2
    go_returns
    exact ⟨rfl, rfl⟩
  · have d1 : decide (n < 1) = false := decide_eq_false h1
    have d2 : decide (n > 4194304) = true := decide_eq_true (by omega)
    go_wp2
    go_returns
    exact ⟨rfl, rfl⟩
theorem made_bytes (n : Nat) : madeCells #[.int .u8 0] n = bcells (List.replicate n 0) := by
  apply Array.toList_inj.1
  rw [toList_madeCells_one]
  simp [bcells]
theorem make_bytes (n : Nat) (hn : n ≤ 4194304) (w : World) : (Instr.makeSlice 40 (.int .i64 n) (.int .i64 n)).run Try.prog w = .ok (.slice (some ⟨w.heap.size, 0, none⟩) n n) (w.alloc (.cells (bcells (List.replicate n 0)) 5)) := by
  have hb : (Try.prog.info? 5).map (fun i => (i.zero, i.size, i.bytes)) = some (some (.int .u8 0), 1, 1) := by kernel_rfl
  obtain ⟨i, hi, hzz⟩ := Option.map_eq_some_iff.1 hb
  simp only [Prod.mk.injEq] at hzz
  obtain ⟨hz, hs, hb⟩ := hzz
  have hr := run_make (P := Try.prog) w 40 5 i (.int .u8 0) Try.underlying40 hi hz .i64 .i64 n n (by omega) (by omega) (by rw [hb]; omega) (by omega)
  have e : (Value.int IntKind.u8 0).cells = #[.int .u8 0] := rfl
  rw [e] at hr
  rw [← made_bytes]
  simpa only [Int.toNat_natCast, hs, Nat.mul_one] using hr
theorem new_dk (W : World) (n : Nat) (h2 : n ≤ 4194304) (g1 g2 : Nat) (hg : (g1 = W.heap.size ∧ g2 = W.heap.size + 1) ∨ (g1 = W.heap.size + 1 ∧ g2 = W.heap.size)) :
    Dk (((W.alloc (.cells (bcells (List.replicate n 0)) 5)).alloc (.cells (bcells (List.replicate n 0)) 5)).alloc (.cells #[.bool false, .int .i64 0, .slice (some ⟨g1, 0, none⟩) n n, .slice (some ⟨g2, 0, none⟩) n n, .slice none 0 0] 54))
      W.heap.size (W.heap.size + 2) g1 g2 (.slice none 0 0) ⟨false, 0, List.replicate n 0, List.replicate n 0, []⟩ := by
  have e1 := heap_alloc_new W (.cells (bcells (List.replicate n 0)) 5)
  generalize hZ : (Obj.cells (bcells (List.replicate n 0)) 5) = Z at e1 ⊢
  have e2 := heap_alloc_new (W.alloc Z) Z
  have e1' : ((W.alloc Z).alloc Z).heap[W.heap.size]? = some Z := (Below.heap_alloc (W.alloc Z) Z W.heap.size (by rw [World.size_alloc]; omega)).trans e1
  rw [World.size_alloc] at e2
  generalize hW2 : (W.alloc Z).alloc Z = W2 at e2 e1' ⊢
  have hsz : W2.heap.size = W.heap.size + 2 := by rw [← hW2, World.size_alloc, World.size_alloc]
  have hold : ∀ k, k < W.heap.size + 2 → ∀ o, (W2.alloc o).heap[k]? = W2.heap[k]? := fun k hk o => Below.heap_alloc W2 o k (by omega)
  have e3 := heap_alloc_new W2 (.cells #[.bool false, .int .i64 0, .slice (some ⟨g1, 0, none⟩) n n, .slice (some ⟨g2, 0, none⟩) n n, .slice none 0 0] 54)
  rw [hsz] at e3
  have q1 : W2.heap[g1]? = some Z := by rcases hg with ⟨rfl, rfl⟩ | ⟨rfl, rfl⟩ <;> assumption
  have q2 : W2.heap[g2]? = some Z := by rcases hg with ⟨rfl, rfl⟩ | ⟨rfl, rfl⟩ <;> assumption
  refine ⟨⟨?_, ?_, ?_, rfl, by simpa using h2, by omega, by omega, by omega, by omega, by rw [World.size_alloc]; omega⟩, World.ownsRow_nil _ _ _ _⟩
  · simpa using e3
  · exact (hold g1 (by omega) _).trans (hZ ▸ q1)
  · exact (hold g2 (by omega) _).trans (hZ ▸ q2)
theorem new_calls (W : World) (n : Nat) (h1 : 1 ≤ n) (h2 : n ≤ 4194304) : Calls Try.prog 12 #[.int .i64 n] W fun e W' =>
    ∃ d g1 g2, e = .returned (.tuple #[.pointer (some ⟨d, 0, none⟩), .int .i64 0]) ∧ Dk W' W.heap.size d g1 g2 (.slice none 0 0) ⟨false, 0, List.replicate n 0, List.replicate n 0, []⟩ ∧ Below W.heap.size W W' := by
  have d1 : decide ((n : Int) < 1) = false := decide_eq_false (by omega)
  have d2 : decide ((n : Int) > 4194304) = false := decide_eq_false (by omega)
  have hmk := fun w => make_bytes n h2 w
  go_enter Try.func12, Try.ntmps12
  go_upto_region 3 with fail
  refine wp_region_held_drew (S := fun _ => True) (by kernel_rfl) trivial (fun _ => ?_)
  refine reg_tk 0 ?_
  (try simp only [Act.put, List.setIfInBounds_toArray, List.set_cons_zero, List.set_cons_succ])
  refine reg_tk 2 ?_
  (try simp only [Act.put, List.setIfInBounds_toArray, List.set_cons_zero, List.set_cons_succ])
  refine reg_two 1 3 (fun KK_ hKK_ => ?_) (fun KK_ hKK_ => ?_)
  · go_simp
    refine hKK_.out _ _ trivial (fun _ => ?_)
    clear hKK_ KK_
    (try simp only [Act.put, List.setIfInBounds_toArray, List.set_cons_zero, List.set_cons_succ])
    refine reg_one 3 (fun KK_ hKK_ => ?_)
    go_simp
    refine hKK_.out _ _ trivial (fun _ => ?_)
    clear hKK_ KK_
    (try simp only [Act.put, List.setIfInBounds_toArray, List.set_cons_zero, List.set_cons_succ])
    refine reg_tk 4 ?_
    (try simp only [Act.put, List.setIfInBounds_toArray, List.set_cons_zero, List.set_cons_succ])
    refine reg_one 5 (fun KK_ hKK_ => ?_)
    go_simp
    refine hKK_.out _ _ trivial (fun _ => ?_)
    clear hKK_ KK_
    (try simp only [Act.put, List.setIfInBounds_toArray, List.set_cons_zero, List.set_cons_succ])
    refine reg_tk 6 ?_
    (try simp only [Act.put, List.setIfInBounds_toArray, List.set_cons_zero, List.set_cons_succ])
    refine reg_tk 7 ?_
    (try simp only [Act.put, List.setIfInBounds_toArray, List.set_cons_zero, List.set_cons_succ])
    refine wpAnyH_done (by kernel_rfl) ?_ _
    go_wp2
    go_returns
    exact ⟨W.heap.size + 2, W.heap.size, W.heap.size + 1, rfl, (new_dk W n h2 _ _ (.inl ⟨rfl, rfl⟩)).below (below_drew (Below.refl _ _)), below_drew (below_alloc (below_alloc (below_alloc (Below.refl _ _) _) _) _)⟩
  · go_simp
    refine hKK_.out _ _ trivial (fun _ => ?_)
    clear hKK_ KK_
    (try simp only [Act.put, List.setIfInBounds_toArray, List.set_cons_zero, List.set_cons_succ])
    refine reg_one 1 (fun KK_ hKK_ => ?_)
    go_simp
    refine hKK_.out _ _ trivial (fun _ => ?_)
    clear hKK_ KK_
    (try simp only [Act.put, List.setIfInBounds_toArray, List.set_cons_zero, List.set_cons_succ])
    refine reg_tk 4 ?_
    (try simp only [Act.put, List.setIfInBounds_toArray, List.set_cons_zero, List.set_cons_succ])
    refine reg_one 5 (fun KK_ hKK_ => ?_)
    go_simp
    refine hKK_.out _ _ trivial (fun _ => ?_)
    clear hKK_ KK_
    (try simp only [Act.put, List.setIfInBounds_toArray, List.set_cons_zero, List.set_cons_succ])
    refine reg_tk 6 ?_
    (try simp only [Act.put, List.setIfInBounds_toArray, List.set_cons_zero, List.set_cons_succ])
    refine reg_tk 7 ?_
    (try simp only [Act.put, List.setIfInBounds_toArray, List.set_cons_zero, List.set_cons_succ])
    refine wpAnyH_done (by kernel_rfl) ?_ _
    go_wp2
    go_returns
    exact ⟨W.heap.size + 2, W.heap.size + 1, W.heap.size, rfl, (new_dk W n h2 _ _ (.inr ⟨rfl, rfl⟩)).below (below_drew (Below.refl _ _)), below_drew (below_alloc (below_alloc (below_alloc (Below.refl _ _) _) _) _)⟩
/-- what Read answers -/
def strOf (bs : List UInt8) : ByteArray := ⟨bs.toArray⟩
def readS (s : DD) (o n : Int) : ByteArray := if s.off then strOf [] else if ins s o n then strOf ((s.vis.drop o.toNat).take n.toNat) else strOf []
def readE (s : DD) (o n : Int) : Int := if s.off then 231 else if ins s o n then 0 else 230
theorem strOf_nums (l : List UInt8) : strOfNums (l.map fun b => (b.toNat : Int)) = strOf l := by
  unfold strOfNums strOf
  rw [List.map_map]
  congr 2
  conv => rhs; rw [← List.map_id l]
  apply List.map_congr_left
  intro x _
  simp
theorem bytes_to_string {W : World} {g : Nat} {bs : List UInt8} (hg : W.heap[g]? = some (.cells (bcells bs) 5 (0, 0))) (k m c : Nat) (h : k + m ≤ bs.length) :
    (convert 40 9 (.slice (some ⟨g, k, none⟩) m c)).run Try.prog W = .ok (.string (strOf ((bs.drop k).take m))) W := by
  rw [← strOf_nums]
  refine run_convert_bytes_arg (P := Try.prog) W 40 5 Try.underlying40 Try.underlying5 g k m c _ ?_ ?_ 9 Try.underlying9
  · rw [List.length_map, List.length_take, List.length_drop]
    omega
  · intro i hi
    rw [cell_of_heap hg]
    have h1 : k + i < bs.length := by omega
    simp [bcells, List.getElem?_eq_getElem h1, List.getD_eq_getElem?_getD, hi]
theorem read_calls (h : Dk W base d g1 g2 pv s) (o n : Int) : Calls Try.prog 13 #[.pointer (some ⟨d, 0, none⟩), .int .i64 o, .int .i64 n] W fun e W' => e = .returned (.tuple #[.string (readS s o n), .int .i64 (readE s o n)]) ∧ W' = W := by
  have hu := Try.underlying54
  have c3 := h.h0.c3
  have hm := h.h0.max
  have hlen := h.h0.len
  have H := Aside0.mk h
  clear h
  unfold readS readE
  go_enter Try.func13, Try.ntmps13
  cases ho : s.off
  · cases hi : ins s o n
    · go_wp2_with (first | (go_at_call 25; refine (inside_calls H.out o n).mono ?_; rintro e W' ⟨rfl, rfl⟩; rw [hi]) | (go_at_call 24; refine (check_calls H.out).mono ?_; rintro e W' ⟨rfl, rfl⟩; rw [ho]))
      go_returns
      exact ⟨rfl, rfl⟩
    · have hi2 := hi
      simp only [ins, Bool.and_eq_true, decide_eq_true_eq] at hi2
      obtain ⟨⟨⟨i1, i2⟩, i3⟩, i4⟩ := hi2
      obtain ⟨k, rfl⟩ : ∃ k : Nat, o = k := ⟨o.toNat, by omega⟩
      obtain ⟨m, rfl⟩ : ∃ m : Nat, n = m := ⟨n.toNat, by omega⟩
      have j3 : k ≤ s.dur.length := by omega
      have j4 : m ≤ s.dur.length - k := by omega
      by_cases hk : s.dur.length = k
      · obtain rfl : m = 0 := by omega
        have hi0 : ins s (k : Int) 0 = true := hi
        have hcv := bytes_to_string H.out.h0.h2 0 0 0 (by omega)
        go_wp2_with (first | (go_at_call 25; refine (inside_calls H.out (k : Int) (0 : Int)).mono ?_; rintro e W' ⟨rfl, rfl⟩; rw [hi0]) | (go_at_call 24; refine (check_calls H.out).mono ?_; rintro e W' ⟨rfl, rfl⟩; rw [ho]))
        go_returns
        exact ⟨by simp, rfl⟩
      · have hcv := bytes_to_string H.out.h0.h2 k m (s.dur.length - k) (by rw [hlen]; omega)
        go_wp2_with (first | (go_at_call 25; refine (inside_calls H.out (k : Int) (m : Int)).mono ?_; rintro e W' ⟨rfl, rfl⟩; rw [hi]) | (go_at_call 24; refine (check_calls H.out).mono ?_; rintro e W' ⟨rfl, rfl⟩; rw [ho]))
        go_ret2
        exact ⟨by simp, rfl⟩
  · go_wp2_with (first | (go_at_call 24; refine (check_calls H.out).mono ?_; rintro e W' ⟨rfl, rfl⟩; rw [ho]))
    go_returns
    exact ⟨rfl, rfl⟩
end
end Go.Proofs.Ytmonlhgfgnfbdaa
