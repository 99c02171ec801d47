/- A slice with room behind it, and a row of the call's own as a box that is written to. -/
import Derived.Test.YtngckofkbkhomaaHLabMono
import Derived.Test.YtngckofkbkhomaaHRegStep
namespace Go.Proofs.Ytngckofkbkhomaa
open Go.RowKit Go.Lib Go.Proofs.Ytngckofkbkhomaa.PBase Go.Proofs.YtngckofkbkhomaaW.PrintWords Go.Proofs.YtngckofkbkhomaaW.PrintLast Go.Proofs.YtngckofkbkhomaaW.PrintMore
set_option linter.unusedVariables false
/-- the cells of a row of numbers with room for c -/
def roomy (xs : List Int) (c : Nat) : Array Value := (nums .i64 xs ++ List.replicate (c - xs.length) (Value.int .i64 0)).toArray
theorem roomy_nil (c : Nat) : roomy [] c = madeCells #[.int .i64 0] c := by
  apply Array.toList_inj.1
  rw [toList_madeCells_one]
  simp [roomy, nums]
theorem roomy_at {xs : List Int} {c i : Nat} (h1 : xs.length ≤ i) (h2 : i < c) : (roomy xs c)[i]? = some (.int .i64 0) := by
  unfold roomy
  rw [List.getElem?_toArray, List.getElem?_append_right (by simpa [nums] using h1), List.getElem?_replicate, if_pos (by simp [nums]; omega)]
theorem keep_row (W : World) (g : Nat) (cs : Array Value) : KeepBut W (W.setRow g cs) g none := ⟨by rw [setRow_size]; exact Nat.le_refl _, fun i _ h _ => setRow_other W g i cs h⟩
theorem below_row {B : Nat} {W0 W : World} (h : Below B W0 W) {g : Nat} (hg : B ≤ g) (cs : Array Value) : Below B W0 (W.setRow g cs) :=
  ⟨h.os, h.tape, h.output, by rw [setRow_size]; exact h.size, fun k hk => (setRow_other W g k cs (by omega)).trans (h.block k hk)⟩
theorem append_room {W : World} {g c m : Nat} {A : Option Addr} {xs : List Int} (hg : W.heap[g]? = some (.cells (madeCells #[.int .i64 0] c) 3 (0, 0))) (HR : Kd.C (Kd.int .i64) W A xs.length xs) (hc : xs.length ≤ c) (ty : TypeId) :
    ∃ W1, (Builtin.append_ #[23, 23] ty #[.slice (some ⟨g, 0, none⟩) 0 c, .slice A xs.length m]).run Try.prog W = .ok (.slice (some ⟨g, 0, none⟩) xs.length c) W1 ∧
      W1.heap[g]? = some (.cells (roomy xs c) 3 (0, 0)) ∧ KeepBut W W1 g none ∧ ∀ B W0, B ≤ g → Below B W0 W → Below B W0 W1 := by
  obtain ⟨i, hi, hzz⟩ := Option.map_eq_some_iff.1 int_info
  simp only [Prod.mk.injEq] at hzz
  obtain ⟨hz, hs, hb⟩ := hzz
  have hR := Kd.reads_of_C (d := (0 : Int)) HR
  rcases A with _ | ad
  · obtain rfl : xs = [] := by
      rcases Nat.eq_zero_or_pos xs.length with h0 | h0
      · exact List.eq_nil_of_length_eq_zero h0
      · obtain ⟨ad, h, _⟩ := hR.2.2 h0
        cases h
    refine ⟨W, ?_, by rw [roomy_nil]; exact hg, KeepBut.refl _ _ _, fun _ _ _ h => h⟩
    simp [Builtin.append_, run_underlying Try.underlying23, sizeOf, typeInfo, hi, Builtin.lenOf, Builtin.firstCells, storeCells]
  · have hcells : ∀ j u, (nums .i64 xs)[j]? = some u → W.cell? (ad.add j) = some u := by
      intro j u hu
      have hj : j < xs.length := by
        rcases Nat.lt_or_ge j xs.length with h | h
        · exact h
        · simp [nums, List.getElem?_eq_none h] at hu
      obtain ⟨ad', h', hc⟩ := hR.2.2 (by omega)
      injection h' with h'
      subst h'
      rw [hc j (by omega)]
      simp only [nums, List.getElem?_map, List.getElem?_eq_getElem hj, Option.map_some, Option.some.injEq] at hu
      rw [← hu, List.getD_eq_getElem?_getD, List.getElem?_eq_getElem hj]
      rfl
    have hr := run_append_room (P := Try.prog) W 23 ty 3 i Try.underlying23 hi g 0 c (madeCells #[.int .i64 0] c) hg ad xs.length m (nums .i64 xs) (by simp [nums, hs]) hcells
      (by intro u hu; simp only [nums, List.mem_map] at hu; obtain ⟨q, _, rfl⟩ := hu; rfl) (by omega) (by rw [size_madeCells]; simp [nums]; omega)
    refine ⟨_, by rw [hr, Nat.zero_add], ?_, keep_row _ _ _, fun B W0 hB h => below_row h hB _⟩
    rw [setRow_heap W g _ _ _ _ hg]
    congr 2
    unfold roomy
    congr 1
    rw [toList_madeCells_one]
    simp [nums, List.drop_replicate]
/-- the operation 'append' onto an empty slice with room -/
theorem wp_append_room {W : World} {g c m : Nat} {xs : List Int} {A : Option Addr} {o : Oper} {a : Act} {K : Act → World → Prop} {Q : Exit → Act → World → Prop} {s x : Operand}
    (ho : o.op = .call { callee := .builtin .append, args := #[s, x], argTypes := #[23, 23] }) (hs : a.eval s = .slice (some ⟨g, 0, none⟩) 0 c) (hx : a.eval x = .slice A xs.length m) (hgd : o.guard = none)
    (hg : W.heap[g]? = some (.cells (madeCells #[.int .i64 0] c) 3 (0, 0))) (HR : Kd.C (Kd.int .i64) W A xs.length xs) (hc : xs.length ≤ c) {y : Nat → Option Bool}
    (h : ∀ W1, W1.heap[g]? = some (.cells (roomy xs c) 3 (0, 0)) → KeepBut W W1 g none → (∀ B W0, B ≤ g → Below B W0 W → Below B W0 W1) → K (a.put o.dst (.slice (some ⟨g, 0, none⟩) xs.length c)) W1) {e : Prop} :
    if Region.wanted o y = true then o.wp Try.prog a W K Q else e := by
  rw [if_pos (by simp [Region.wanted, hgd])]
  obtain ⟨W1, hr, h1, h2, h3⟩ := append_room hg HR hc o.type
  exact wp_append_run_sl W s x _ ho _ _ hs hx hr (h W1 h1 h2 h3)
/-- a store into a box -/
theorem St.put {w W : World} {L L' : List (Option Addr × List Int)} {M M' : List (Nat × Array Value × TypeId)} {b : Nat} {t : TypeId} {cs cs' : Array Value} (h : St w L ((b, cs, t) :: M) W)
    (hL : ∀ p ∈ L', p ∈ L ∧ ∀ ad, p.1 = some ad → 0 < p.2.length → ad.block ≠ b) (hM : ∀ p ∈ M', p ∈ M ∧ p.1 ≠ b) (j : Nat) (v : Value) (hc : cs.setIfInBounds j v = cs') :
    St w L' ((b, cs', t) :: M') (W.setCell ⟨b, j, none⟩ v) := by
  have hbx := h.boxes _ (List.mem_cons_self ..)
  have hk : KeepBut W (W.setCell ⟨b, j, none⟩ v) b none := KeepBut.set_ (KeepBut.refl _ _ _) _ _
  refine ⟨fun p hp => Kd.C_keep (0 : Int) (h.rows p (hL p hp).1) hk (fun ad hA hl => (hL p hp).2 ad hA hl), fun p hp => ?_, below_set h.bel hbx.1⟩
  rcases List.mem_cons.1 hp with rfl | hp
  · exact ⟨hbx.1, blk_put hbx.2 j v hc⟩
  · have h2 := h.boxes p (List.mem_cons_of_mem _ (hM p hp).1)
    exact ⟨h2.1, hk.blk h2.2 (hM p hp).2 (by simp)⟩
/-- the row of a slice that a call has made, as a box, if there is one -/
def OwnBox (base top : Nat) (E : Option Addr) (n : Nat) (X : List (Nat × Array Value × TypeId)) : Prop :=
  (n = 0 ∧ X = []) ∨ ∃ (g : Nat) (cur : Array Value), E = some ⟨g, 0, none⟩ ∧ X = [(g, cur, 3)] ∧ n ≤ cur.size ∧ base ≤ g ∧ g < top
theorem own_box {W : World} {base : Nat} {v : Value} {xs : List Int} (h : Own W base v xs) : ∃ E m X, v = .slice E xs.length m ∧ xs.length ≤ m ∧ Kd.C (Kd.int .i64) W E xs.length xs ∧ OwnBox base W.heap.size E xs.length X ∧
    ∀ (w : World) L M, w.heap.size ≤ base → St w L M W → St w L (M ++ X) W := by
  obtain ⟨E, m, rfl, h1, h2⟩ := own_reads h
  rcases h.2 with ⟨he, hn⟩ | ⟨g, cap, cur, he, hb, hg, hc1, hc2, hc3, hc4⟩
  · exact ⟨E, m, [], rfl, h1, h2, .inl ⟨by injection he, rfl⟩, fun w L M _ hs => by simpa using hs⟩
  · injection he with e1 e2 e3
    subst e1
    refine ⟨_, m, [(g, cur, 3)], rfl, h1, h2, .inr ⟨g, cur, rfl, rfl, ?_, hb, (Array.getElem?_eq_some_iff.1 hg).1⟩, fun w L M hw hs => ⟨hs.rows, fun p hp => ?_, hs.bel⟩⟩
    · omega
    · rcases List.mem_append.1 hp with hp | hp
      · exact hs.boxes p hp
      · obtain rfl := List.mem_singleton.1 hp
        exact ⟨Nat.le_trans hw hb, hg⟩
theorem join_st3 {w W : World} {L : List (Option Addr × List Int)} {M : List (Nat × Array Value × TypeId)} (x y : Lab) (A B : Option Addr) (c d : Nat) (h : St w L M W) (hx : (A, x.after) ∈ L) (hc : x.after.length ≤ c) (hy : (B, y.after) ∈ L) (hd : y.after.length ≤ d) :
    Calls Try.prog 22 #[.agg #[.int .i64 x.u, .slice A x.after.length c, .int .i64 x.ap, .int .i64 x.den], .agg #[.int .i64 y.u, .slice B y.after.length d, .int .i64 y.ap, .int .i64 y.den]] W fun e w' =>
      ∃ E m X, e = .returned (.agg #[.int .i64 (Lab.join x y).u, .slice E (Lab.join x y).after.length m, .int .i64 (Lab.join x y).ap, .int .i64 (Lab.join x y).den]) ∧ (Lab.join x y).after.length ≤ m ∧ St w ((E, (Lab.join x y).after) :: L) (M ++ X) w' ∧ OwnBox W.heap.size w'.heap.size E (Lab.join x y).after.length X := by
  refine (join_calls x y A B c d W (h.get hx) hc (h.get hy) hd).mono ?_
  rintro e w' ⟨v, rfl, hR, hb⟩
  obtain ⟨E, m, X, rfl, hm, hC, hX, hS⟩ := own_box (Kd.own_of_R hR)
  exact ⟨E, m, X, rfl, hm, hS w _ _ h.bel.size ((h.step hb).add hC), hX⟩
theorem make_st2 {w W : World} {L : List (Option Addr × List Int)} {M : List (Nat × Array Value × TypeId)} (x0 x1 x2 x3 : Int) (h : St w L M W) (h0 : Rng x0) (h2 : Rng x2) (h3 : Rng x3) :
    Calls Try.prog 14 #[.agg #[.int .i64 x0, .int .i64 x1, .int .i64 x2, .int .i64 x3]] W fun e w' =>
      ∃ E m, e = .returned (.agg #[.int .i64 (mk x0 x1 x2 x3).u, .slice E (mk x0 x1 x2 x3).after.length m, .int .i64 (mk x0 x1 x2 x3).ap, .int .i64 (mk x0 x1 x2 x3).den]) ∧ (mk x0 x1 x2 x3).after.length ≤ m ∧ St w ((E, (mk x0 x1 x2 x3).after) :: L) M w' ∧ ∀ ad, E = some ad → W.heap.size ≤ ad.block := by
  obtain ⟨k, hk⟩ := (mk_ev x0 x1 x2 x3 h0 h2 h3).rounds
  refine (copydesklaw02_Make.calls k x0 x1 x2 x3 _ _ _ _ W hk).mono ?_
  rintro e w' ⟨v, rfl, hR, hb⟩
  obtain ⟨E, m, rfl, hm, hC, hE⟩ := own_reads2 (Kd.own_of_R hR)
  exact ⟨E, m, rfl, hm, (h.step hb).add hC, hE⟩
/-- what lies in a state lies below -/
theorem St.lts {w W : World} {L : List (Option Addr × List Int)} {M : List (Nat × Array Value × TypeId)} (h : St w L M W) : (∀ p ∈ L, ∀ ad, p.1 = some ad → 0 < p.2.length → ad.block < W.heap.size) ∧ ∀ p ∈ M, p.1 < W.heap.size :=
  ⟨fun p hp ad hA hl => h.lt (A := p.1) (l := p.2) hp ad hA hl, fun p hp => (Array.getElem?_eq_some_iff.1 (h.boxes p hp).2).1⟩
theorem roomy_C {W : World} {g c : Nat} {xs : List Int} (hg : W.heap[g]? = some (.cells (roomy xs c) 3 (0, 0))) (hc : xs.length ≤ c) (hm : c ≤ 1000000) : Kd.C (Kd.int .i64) W (some ⟨g, 0, none⟩) xs.length xs := by
  have h : Own W 0 (.slice (some ⟨g, 0, none⟩) xs.length c) xs := by
    refine ⟨by simp [nums], .inr ⟨g, c, _, rfl, Nat.zero_le _, hg, hc, by unfold maxLen; omega, ?_, ?_⟩⟩
    · simp [roomy, nums]
      omega
    · simp [roomy, nums]
  obtain ⟨E, m, he, _, hC⟩ := own_reads h
  injection he with e1
  subst e1
  exact hC
theorem St.mark {w W : World} {L : List (Option Addr × List Int)} {M : List (Nat × Array Value × TypeId)} {g N0 B : Nat} {cur : Array Value} {t : TypeId} (h : St w L (M ++ [(g, cur, t)]) W)
    (hL : ∀ p ∈ L, ∀ ad, p.1 = some ad → 0 < p.2.length → ad.block < N0 ∨ B < ad.block) (hM : ∀ p ∈ M, p.1 < N0 ∨ B ≤ p.1) (h0 : N0 ≤ g) (h1 : g < B) (i : Nat) (v : Value) :
    St w L (M ++ [(g, cur.setIfInBounds i v, t)]) (W.setCell ⟨g, i, none⟩ v) := by
  have h2 : St w L ((g, cur, t) :: M) W := h.sub (fun p hp => hp) (fun p hp => by
    rcases List.mem_cons.1 hp with rfl | hp
    · exact List.mem_append_right _ (List.mem_singleton.2 rfl)
    · exact List.mem_append_left _ hp)
  refine (h2.put (L' := L) (M' := M) (fun p hp => ⟨hp, fun ad hA hl => ?_⟩) (fun p hp => ⟨hp, ?_⟩) i v rfl).sub (fun p hp => hp) (fun p hp => ?_)
  · have := hL p hp ad hA hl
    omega
  · have := hM p hp
    omega
  · rcases List.mem_append.1 hp with hp | hp
    · exact List.mem_cons_of_mem _ hp
    · obtain rfl := List.mem_singleton.1 hp
      exact List.mem_cons_self ..
section
variable {P : Program} {ops : Array Oper} {Q : Exit → Act → World → Prop} {md : Region.Mode} {S : World → Prop}
/-- two operations that may come up -/
theorem reg_two (i j : Nat) {oi oj : Oper} {fuel : Nat} {listed : Array Bool} {a : Act} {w : World}
    (h : ∀ K' : Act → World → Prop, Shut (∀ a w, S w → (S w → wpAnyH P md ops Q S fuel (listed.setIfInBounds i true) a w) → K' a w) → if Region.wanted oi (yielded ops a.tmps) = true then Oper.wp P oi a w K' Q else K' (a.put oi.dst undef) w)
    (h2 : ∀ K' : Act → World → Prop, Shut (∀ a w, S w → (S w → wpAnyH P md ops Q S fuel (listed.setIfInBounds j true) a w) → K' a w) → if Region.wanted oj (yielded ops a.tmps) = true then Oper.wp P oj a w K' Q else K' (a.put oj.dst undef) w)
    (hi : ops[i]? = some oi := by first | (simp only [List.getElem?_toArray, List.getElem?_cons_zero, List.getElem?_cons_succ]; done) | (simp only [List.getElem?_toArray, List.getElem?_cons_zero, List.getElem?_cons_succ]; rfl))
    (hj : ops[j]? = some oj := by first | (simp only [List.getElem?_toArray, List.getElem?_cons_zero, List.getElem?_cons_succ]; done) | (simp only [List.getElem?_toArray, List.getElem?_cons_zero, List.getElem?_cons_succ]; rfl))
    (hr : Region.ready md ops listed = [i, j] := by kernel_rfl) : wpAnyH P md ops Q S (fuel + 1) listed a w :=
  wpAnyH_ready hr (by simp) (AllReadyH.cons hi h (AllReadyH.cons hj h2 AllReadyH.nil))
end
end Go.Proofs.Ytngckofkbkhomaa
