/- copydesk/token.Words: it hands back a row of its own: the words. -/
import Derived.Test.YtgiajodcempniaaDoorHTokSpans
import Derived.Test.YtgiajodcempniaaDoorHTokSmall
import Derived.IntWalk
namespace Go.Proofs.YtgiajodcempniaaDoor
open Go.RowKit Go.Shelf Go.Proofs.YtgiajodcempniaaDoorW.PrintWords
set_option linter.unusedVariables false
set_option linter.unusedSimpArgs false
attribute [local go_sem] Oper.semAt_some

theorem infoStr : (Tryd.prog.info? 9).map (fun i => (i.zero, i.size, i.bytes)) = some (some (.string ByteArray.empty), 1, 16) := by kernel_rfl

/-- the word of a run -/
def wordOf (s : ByteArray) (x : Int × Int) : ByteArray := lowBA (s.extract x.1.toNat (min x.2 (x.1 + 30)).toNat)
def spansOf (s : ByteArray) : List (Int × Int) := spans s (s.size + 1) (nxt s 0 true)

theorem isP_lt {c : UInt8} (h : Tok.isP c = true) : c.toNat < 128 := by
  simp only [Tok.isP, Bool.or_eq_true, Bool.and_eq_true, decide_eq_true_eq, UInt8.le_iff_toNat_le] at h
  simp at h
  omega
theorem mem_extract (s : ByteArray) (i j : Nat) (c : UInt8) (hc : c ∈ (s.extract i j).data.toList) : ∃ k : Nat, i ≤ k ∧ k < j ∧ bt s k = c.toNat := by
  obtain ⟨q, hq, rfl⟩ := List.mem_iff_getElem.1 hc
  rw [Array.length_toList] at hq
  have hq' : q < (s.extract i j).size := hq
  rw [ByteArray.size_extract] at hq'
  refine ⟨i + q, by omega, by omega, ?_⟩
  have h1 : (i + q) < s.size := by omega
  rw [← bt_at s ((i + q : Nat) : Int) (by rw [Int.toNat_natCast]; exact h1)]
  simp only [Int.toNat_natCast]
  congr 2
  simp [ByteArray.getElem_eq_getElem_data]

set_option maxRecDepth 100000 in
set_option maxHeartbeats 4000000 in
theorem words_own (s : ByteArray) (hs : s.size ≤ 1099511627776) (w : World) :
    Calls Tryd.prog 14 #[.string s] w fun e W' => ∃ v, e = .returned v ∧ W'.ownsRow w.heap.size 9 1 v ((spansOf s).map (wordOf s)).length (((spansOf s).map (wordOf s)).map Value.string) ∧ Below w.heap.size w W' := by
  obtain ⟨i0, hi, hz0, hz1, hz2⟩ := info_parts infoStr
  refine (callsIn_wide (n := 9)).1 ?_
  refine callsIn_of_wp_marks Tryd.func14 rfl trivial ?_ rfl
  simp only [Tryd.ntmps14, List.size_toArray, List.length_cons, List.length_nil, Nat.reduceAdd, Nat.reduceSub, Array.replicate_succ, Array.replicate_zero, List.push_toArray, List.append_toArray, List.nil_append, List.cons_append]
  gi_wp2_with (refine ⟨trivial, ?_⟩; gi_at_call 21; refine (spans_in _ s _).mono ?_; rintro e w' ⟨rfl, rfl⟩)
  obtain ⟨W0, hW0⟩ : ∃ W0, ((w.alloc (.cells #[.string s] 9)).alloc (.cells #[.slice none 0 0] 25)).alloc (.cells #[.string s] 9) = W0 := ⟨_, rfl⟩
  have hB0 : Below w.heap.size w W0 := by rw [← hW0]; exact (((Below.refl _ w).alloc (Nat.le_refl _) _).alloc (by simp) _).alloc (by simp; omega) _
  have bS : Boxed W0 w.heap.size 9 (.string s) := by rw [← hW0]; exact ((Boxed.new w _ _).alloc _).alloc _
  have bO : Boxed W0 (w.heap.size + 1) 25 (.slice none 0 0) := by
    rw [← hW0]
    have := (Boxed.new (w.alloc (.cells #[.string s] 9)) 25 (.slice none 0 0)).alloc (.cells #[.string s] 9)
    rwa [World.size_alloc] at this
  have bN : Boxed W0 (w.heap.size + 1 + 1) 9 (.string s) := by
    rw [← hW0]
    have := Boxed.new ((w.alloc (.cells #[.string s] 9)).alloc (.cells #[.slice none 0 0] 25)) 9 (.string s)
    rwa [World.size_alloc, World.size_alloc] at this
  have hz0' : W0.heap.size = w.heap.size + 3 := by rw [← hW0]; simp
  rw [hW0]
  clear hW0
  obtain ⟨L, hL⟩ : ∃ L, L = s.size + 1 := ⟨_, rfl⟩
  refine wpIn_rangeFunc_ownH (F := Fence.wide) (n := 9) rfl (by omega) (gf := 28) (lb := #[.pointer (some ⟨w.heap.size + 1 + 1, 0, none⟩)]) rfl trivial (enters_of Tryd.func28 (by kernel_rfl) rfl)
    (spans_stops 8 (w.heap.size + 1 + 1) w.heap.size L s (by omega) (by omega) W0 bN) KpB.t (KpB.b (by omega)) (Below.refl _ _) (fun _ => rfl)
    (fun pre W => ((∃ v, Boxed W (w.heap.size + 1) 25 v ∧ W.ownsRow (w.heap.size + 3) 9 1 v (pre.map (fun x : Sp s => wordOf s x.1)).length ((pre.map (fun x : Sp s => wordOf s x.1)).map Value.string) ∧ True) ∧ Boxed W w.heap.size 9 (.string s)) ∧ (Below w.heap.size w W ∧ W0.heap.size ≤ W.heap.size))
    (fun _ _ _ => False)
    (OwnFrom.and (OwnFrom.and (Own.from (holdsRow_own (w.heap.size + 3) (w.heap.size + 1) 25 9 1 (fun pre : List (Sp s) => (pre.map (fun x : Sp s => wordOf s x.1)).length) (fun pre => (pre.map (fun x : Sp s => wordOf s x.1)).map Value.string) (fun _ _ => True)) _) (Own.from (boxed_own w.heap.size 9 (fun _ => .string s)) _)) (OwnFrom.and (ownFrom_below (by omega) (by omega)) (fun _ _ _ _ hs hg _ => Nat.le_trans hs hg.size)))
    (fun _ _ _ _ _ hs _ _ => hs)
    ⟨⟨⟨_, bO, World.ownsRow_nil _ _ _ _, trivial⟩, bS⟩, hB0, Nat.le_refl _⟩
    (fun x a' W => ∃ Bx, W0.heap.size ≤ Bx ∧ W.heap[Bx]? = some (.cells #[.int .i64 x.1.1, .int .i64 x.1.2] 39 (0, 0)) ∧ a' = { tmps := #[.string s, .pointer (some ⟨w.heap.size, 0, none⟩), .slice none 0 0, .pointer (some ⟨w.heap.size + 1, 0, none⟩), .pointer (some ⟨Bx, 0, none⟩), .string s, .func (.func 28) #[] #[.pointer (some ⟨w.heap.size + 1 + 1, 0, none⟩)], .agg #[.int .i64 x.1.1, .int .i64 x.1.2], undef, undef, undef, undef, undef, undef, undef, undef, undef, undef, undef, undef, undef, undef, undef], defers := [] })
    ?hAx ?assign ?body ?done ?stop
  case hAx =>
    rintro x a' s0 A B row ⟨Bx, h1, h2, h3⟩ hg hr
    refine ⟨Bx, h1, (hg.block Bx (Array.getElem?_eq_some_iff.1 h2).1 ?_).trans h2, h3⟩
    intro e
    obtain ⟨_, o, ho, hc⟩ := hr Bx e.symm
    rw [h2] at ho
    cases ho
    cases hc
  case assign =>
    intro l pre x W K hI hK
    obtain ⟨⟨⟨v, hv, hrow, _⟩, hS⟩, hB, hle⟩ := hI
    gi_wp2
    exact hK _ _ ((KeepsOthers.alloc _ _).from _) ⟨(Below.refl _ W).alloc hB.size _, fun c t f e => (Below.heap_alloc _ _ _ (Array.getElem?_eq_some_iff.1 e).1).trans e⟩ ⟨⟨⟨v, hv.alloc _, hrow.alloc _, trivial⟩, hS.alloc _⟩, hB.alloc hB.size _, by simp; omega⟩ ⟨W.heap.size, hle, World.alloc_heap_new _ _, rfl⟩
  case body =>
    rintro l pre ⟨⟨x1, x2⟩, hx0, hx1, hx2, hxP⟩ a' W hl ⟨r, hr⟩ ⟨⟨⟨v, hv, hrow, _⟩, hS⟩, hB, hle⟩ ⟨Bx, hBx, bX, rfl⟩ hlt
    dsimp only at hx0 hx1 hx2 hxP bX
    have hcs := hS.cell
    have hc1 : W.cell? ⟨Bx, 0, none⟩ = some (.int .i64 x1) := by simp [World.cell?, bX]
    have hc2 : W.cell? ⟨Bx, 1, none⟩ = some (.int .i64 x2) := by simp [World.cell?, bX]
    have hBl : Bx < W.heap.size := (Array.getElem?_eq_some_iff.1 bX).1
    obtain ⟨M, hM⟩ : ∃ M : Int, min x2 (x1 + 30) = M := ⟨_, rfl⟩
    have hw1 : IntKind.i64.wrap (x1 + 30) = x1 + 30 := IntWalk.i64_in _ (by omega)
    have hm0 : 0 ≤ M := by omega
    have hm1 : x1 ≤ M := by omega
    have hm2 : M ≤ s.size := by omega
    gi_wp2
    refine wpIn_region_held_round (S := fun w' => w'.cell? ⟨w.heap.size, 0, none⟩ = some (.string s) ∧ w'.cell? ⟨Bx, 0, none⟩ = some (.int .i64 x1) ∧ w'.cell? ⟨Bx, 1, none⟩ = some (.int .i64 x2)) (by kernel_rfl) (by kernel_rfl) (fun _ _ h => h) ⟨hcs, hc1, hc2⟩ (fun hHeld => ?_)
    refine wpAnyH_take (i := 1) (v := ?_) rfl (by kernel_rfl) (by kernel_rfl) (by kernel_rfl) (fun _ _ _ h => h) (Or.inl ⟨by rfl, ?_⟩) (by assumption) ?_
    rotate_left
    · (intro w hSw; (try dsimp only at hSw); go_simp); try with_reducible rfl
    rotate_left
    (try simp only [Act.put, List.setIfInBounds_toArray, List.set_cons_zero, List.set_cons_succ])
    refine wpAnyH_take (i := 2) (v := ?_) rfl (by kernel_rfl) (by kernel_rfl) (by kernel_rfl) (fun _ _ _ h => h) (Or.inl ⟨by rfl, ?_⟩) (by assumption) ?_
    rotate_left
    · (intro w hSw; (try dsimp only at hSw); go_simp); try with_reducible rfl
    rotate_left
    (try simp only [Act.put, List.setIfInBounds_toArray, List.set_cons_zero, List.set_cons_succ])
    refine wpAnyH_take (i := 3) (v := ?_) rfl (by kernel_rfl) (by kernel_rfl) (by kernel_rfl) (fun _ _ _ h => h) (Or.inl ⟨by rfl, ?_⟩) (by assumption) ?_
    rotate_left
    · (intro w hSw; (try dsimp only at hSw); go_simp); try with_reducible rfl
    rotate_left
    (try simp only [Act.put, List.setIfInBounds_toArray, List.set_cons_zero, List.set_cons_succ])
    refine wpAnyH_take (i := 4) (v := ?_) rfl (by kernel_rfl) (by kernel_rfl) (by kernel_rfl) (fun _ _ _ h => h) (Or.inl ⟨by rfl, ?_⟩) (by assumption) ?_
    rotate_left
    · (intro w hSw; (try dsimp only at hSw); go_simp); try with_reducible rfl
    rotate_left
    (try simp only [Act.put, List.setIfInBounds_toArray, List.set_cons_zero, List.set_cons_succ])
    refine wpAnyH_take (i := 5) (v := ?_) rfl (by kernel_rfl) (by kernel_rfl) (by kernel_rfl) (fun _ _ _ h => h) (Or.inl ⟨by rfl, ?_⟩) (by assumption) ?_
    rotate_left
    · (intro w hSw; (try dsimp only at hSw); go_simp); try with_reducible rfl
    rotate_left
    (try simp only [Act.put, List.setIfInBounds_toArray, List.set_cons_zero, List.set_cons_succ])
    refine wpAnyH_take (i := 6) (v := ?_) rfl (by kernel_rfl) (by kernel_rfl) (by kernel_rfl) (fun _ _ _ h => h) (Or.inl ⟨by rfl, ?_⟩) (by assumption) ?_
    rotate_left
    · (intro w hSw; (try dsimp only at hSw); go_simp); try with_reducible rfl
    rotate_left
    (try simp only [Act.put, List.setIfInBounds_toArray, List.set_cons_zero, List.set_cons_succ])
    refine wpAnyH_take (i := 7) (v := ?_) rfl (by kernel_rfl) (by kernel_rfl) (by kernel_rfl) (fun _ _ _ h => h) (Or.inl ⟨by rfl, ?_⟩) (by assumption) ?_
    rotate_left
    · (intro w hSw; (try dsimp only at hSw); go_simp); try with_reducible rfl
    rotate_left
    (try simp only [Act.put, List.setIfInBounds_toArray, List.set_cons_zero, List.set_cons_succ])
    refine wpAnyH_take (i := 8) (v := ?_) rfl (by kernel_rfl) (by kernel_rfl) (by kernel_rfl) (fun _ _ _ h => h) (Or.inl ⟨by rfl, ?_⟩) (by assumption) ?_
    rotate_left
    · (intro w hSw; (try dsimp only at hSw); go_simp); try with_reducible rfl
    rotate_left
    (try simp only [Act.put, List.setIfInBounds_toArray, List.set_cons_zero, List.set_cons_succ])
    refine wpAnyH_take (i := 9) (v := ?_) rfl (by kernel_rfl) (by kernel_rfl) (by kernel_rfl) (fun _ _ _ h => h) (Or.inl ⟨by rfl, ?_⟩) (by assumption) ?_
    rotate_left
    · (intro w hSw; (try dsimp only at hSw); go_simp); try with_reducible rfl
    rotate_left
    (try simp only [Act.put, List.setIfInBounds_toArray, List.set_cons_zero, List.set_cons_succ])
    refine wpAnyH_take (i := 10) (v := ?_) rfl (by kernel_rfl) (by kernel_rfl) (by kernel_rfl) (fun _ _ _ h => h) (Or.inl ⟨by rfl, ?_⟩) (by assumption) ?_
    rotate_left
    · (intro w hSw; (try dsimp only at hSw); go_simp); try with_reducible rfl
    rotate_left
    (try simp only [Act.put, List.setIfInBounds_toArray, List.set_cons_zero, List.set_cons_succ])
    have hvc := hv.cell
    have hsz : (s.extract x1.toNat M.toNat).size < 35184372088832 := by rw [ByteArray.size_extract]; omega
    have hasc : ∀ c ∈ (s.extract x1.toNat M.toNat).data.toList, c.toNat < 128 := fun c hc => by
      obtain ⟨j, hj0, hj1, hj2⟩ := mem_extract s x1.toNat M.toNat c hc
      have h1 := hxP (j : Int) (by omega) (by omega)
      rw [hj2, isPI_isP] at h1
      exact isP_lt h1
    refine wpAnyH_ready (rs := [0, 11]) (by kernel_rfl) (by simp) ?_
    refine AllReadyH.cons (o := _) rfl (fun K hK => ?_) ?_
    rotate_left
    · refine AllReadyH.cons (o := _) rfl (fun K hK => ?_) ?_
      rotate_left
      · exact AllReadyH.nil
      go_simp
      refine (small_calls _ _ hsz hasc).mono ?_
      rintro e W1 ⟨rfl, hb1'⟩
      have hb1 : Below W.heap.size W W1 := (Below.refl _ W).drew.trans hb1'
      clear hb1'
      refine hK.out _ _ ⟨(hb1.cell (p := ⟨w.heap.size, 0, none⟩) hS.lt).trans hcs, (hb1.cell (p := ⟨Bx, 0, none⟩) hBl).trans hc1, (hb1.cell (p := ⟨Bx, 1, none⟩) hBl).trans hc2⟩ (fun hHeld => ?_)
      clear hK K
      have hrow1 := own_move hrow (fun k hk => hb1.block k (own_lt hrow k hk))
      have hv1 : Boxed W1 (w.heap.size + 1) 25 v := (hb1.block _ hv.lt).trans hv
      have hS1 : Boxed W1 w.heap.size 9 (.string s) := (hb1.block _ hS.lt).trans hS
      have bX1 : W1.heap[Bx]? = some (.cells #[.int .i64 x1, .int .i64 x2] 39 (0, 0)) := (hb1.block _ hBl).trans bX
      have hv1c := hv1.cell
      (try simp only [Act.put, List.setIfInBounds_toArray, List.set_cons_zero, List.set_cons_succ])
      refine wpAnyH_ready (rs := [0, 12]) (by kernel_rfl) (by simp) ?_
      refine AllReadyH.cons (o := _) rfl (fun K hK => ?_) ?_
      rotate_left
      · refine AllReadyH.cons (o := _) rfl (fun K hK => ?_) ?_
        rotate_left
        · exact AllReadyH.nil
        go_simp
        refine hK.out _ _ ⟨(hS1.alloc _).cell, by simp [World.cell?, (Below.heap_alloc W1 (.cells #[.string (lowBA (s.extract x1.toNat M.toNat))] 9) Bx (Array.getElem?_eq_some_iff.1 bX1).1).trans bX1], by simp [World.cell?, (Below.heap_alloc W1 (.cells #[.string (lowBA (s.extract x1.toNat M.toNat))] 9) Bx (Array.getElem?_eq_some_iff.1 bX1).1).trans bX1]⟩ (fun hHeld => ?_)
        clear hK K
        have hv2c := (hv1.alloc (.cells #[.string (lowBA (s.extract x1.toNat M.toNat))] 9)).cell
        (try simp only [Act.put, List.setIfInBounds_toArray, List.set_cons_zero, List.set_cons_succ])
        refine wpAnyH_ready (rs := [0]) (by kernel_rfl) (by simp) ?_
        refine AllReadyH.cons (o := _) rfl (fun K hK => ?_) ?_
        rotate_left
        · exact AllReadyH.nil
        go_simp
        refine hK.out _ _ hHeld (fun hHeld => ?_)
        clear hK K
        (try simp only [Act.put, List.setIfInBounds_toArray, List.set_cons_zero, List.set_cons_succ])
        refine wpAnyH_ready (rs := [13]) (by kernel_rfl) (by simp) ?_
        refine AllReadyH.cons (o := _) rfl (fun K hK => ?_) ?_
        rotate_left
        · exact AllReadyH.nil
        refine step_append_cells (w0 := W1) (W := W1) (w.heap.size + 3) rfl _ _ 25 9 (.string ByteArray.empty) 1 16 rfl Tryd.underlying25 infoStr rfl (by decide) (by decide) v _ _ [.string (lowBA (s.extract x1.toNat M.toNat))] rfl rfl rfl (by simp [Value.oneCell']) hrow1 (Below.refl _ _) (by have := hb1.size; omega) ?hlen ?_
        case hlen => simp only [List.length_map]; omega
        intro v2 w2 hown2 hBb2 hg2 hat2
        obtain ⟨g', cap', rfl⟩ := ownsRow_succ hown2
        have hS2 : Boxed w2 w.heap.size 9 (.string s) := (hg2.block _ hS1.lt ?hne).trans hS1
        case hne => intro e; have := own_base hrow1 _ e.symm; omega
        have bX2 : w2.heap[Bx]? = some (.cells #[.int .i64 x1, .int .i64 x2] 39 (0, 0)) := (hg2.block _ (Array.getElem?_eq_some_iff.1 bX1).1 ?hne2).trans bX1
        case hne2 =>
          intro e
          obtain ⟨cells, hc⟩ := own_typed hrow1 Bx e.symm
          rw [bX1] at hc
          injection hc with hc
          injection hc with _ hc
          exact absurd hc (by decide)
        have hv2 : Boxed w2 (w.heap.size + 1) 25 v := (hg2.block _ hv1.lt (hv1.not_row (by decide) hrow1)).trans hv1
        have hv2c := hv2.cell
        have hv2f := hv2.frozen
        refine hK.out _ _ ⟨hS2.cell, by simp [World.cell?, bX2], by simp [World.cell?, bX2]⟩ (fun hHeld => ?_)
        clear hK K
        (try simp only [Act.put, List.setIfInBounds_toArray, List.set_cons_zero, List.set_cons_succ])
        refine wpAnyH_ready (rs := [14]) (by kernel_rfl) (by simp) ?_
        refine AllReadyH.cons (o := _) rfl (fun K hK => ?_) ?_
        rotate_left
        · exact AllReadyH.nil
        go_simp
        refine hK.out _ _ ⟨(hS2.other (by omega) _).cell, ?_, ?_⟩ (fun hHeld => ?_)
        · rw [World.cell?_setCell_other _ _ _ _ (by simp; try omega)]; simp [World.cell?, bX2]
        · rw [World.cell?_setCell_other _ _ _ _ (by simp; try omega)]; simp [World.cell?, bX2]
        clear hK K
        (try simp only [Act.put, List.setIfInBounds_toArray, List.set_cons_zero, List.set_cons_succ])
        refine wpAnyH_done (by kernel_rfl) ?_ _
        have hKO : KeepsOthers W (w2.setCell ⟨w.heap.size + 1, 0, none⟩ (.slice (some ⟨g', 0, none⟩) (pre.length + 1) cap')) :=
          ((⟨hb1.size, fun k o h _ => (hb1.block k (Array.getElem?_eq_some_iff.1 h).1).trans h⟩ : KeepsOthers W W1).trans (KeepsOthers.of_grownBy hg2 fun j o ej hj => (by
            obtain ⟨cells, hc⟩ := own_typed hrow1 j ej
            rw [hc] at hj; cases hj; rfl))).trans (KeepsOthers.setCell _ _ _)
        have hBw : Below w.heap.size W (w2.setCell ⟨w.heap.size + 1, 0, none⟩ (.slice (some ⟨g', 0, none⟩) (pre.length + 1) cap')) :=
          (((hb1.mono hB.size).grown hg2 (by have := hB.size; have := hb1.size; omega) (fun j ej => by have := own_base hrow1 j ej; omega)).setCell (p := ⟨w.heap.size + 1, 0, none⟩) (by simp) _)
        refine ⟨hKO.from _, ⟨hBw, fun c t f e => ?_⟩, ⟨⟨_, hv2.set _, ?_, trivial⟩, hS2.other (by omega) _⟩, hB.trans hBw, Nat.le_trans hle hBw.size⟩
        · have hlt2 : w.heap.size + 1 + 1 < W.heap.size := (Array.getElem?_eq_some_iff.1 e).1
          rw [Below.heap_setCell _ _ _ _ (by simp; try omega)]
          exact (hg2.block _ (by have := hb1.size; omega) (fun e' => by have := own_base hrow1 _ e'.symm; omega)).trans ((hb1.block _ hlt2).trans e)
        · have h2 := own_move (w1 := w2.setCell ⟨w.heap.size + 1, 0, none⟩ (.slice (some ⟨g', 0, none⟩) (pre.length + 1) cap')) hown2 (fun k hk => Below.heap_setCell _ _ _ _ (by have := own_base hown2 k hk; simp; omega))
          simpa [wordOf, hM] using h2
      go_simp
      refine hK.out _ _ hHeld (fun hHeld => ?_)
      clear hK K
      (try simp only [Act.put, List.setIfInBounds_toArray, List.set_cons_zero, List.set_cons_succ])
      refine wpAnyH_ready (rs := [12]) (by kernel_rfl) (by simp) ?_
      refine AllReadyH.cons (o := _) rfl (fun K hK => ?_) ?_
      rotate_left
      · exact AllReadyH.nil
      go_simp
      refine hK.out _ _ ⟨(hS1.alloc _).cell, by simp [World.cell?, (Below.heap_alloc W1 (.cells #[.string (lowBA (s.extract x1.toNat M.toNat))] 9) Bx (Array.getElem?_eq_some_iff.1 bX1).1).trans bX1], by simp [World.cell?, (Below.heap_alloc W1 (.cells #[.string (lowBA (s.extract x1.toNat M.toNat))] 9) Bx (Array.getElem?_eq_some_iff.1 bX1).1).trans bX1]⟩ (fun hHeld => ?_)
      clear hK K
      have hv2c := (hv1.alloc (.cells #[.string (lowBA (s.extract x1.toNat M.toNat))] 9)).cell
      (try simp only [Act.put, List.setIfInBounds_toArray, List.set_cons_zero, List.set_cons_succ])
      refine wpAnyH_ready (rs := [13]) (by kernel_rfl) (by simp) ?_
      refine AllReadyH.cons (o := _) rfl (fun K hK => ?_) ?_
      rotate_left
      · exact AllReadyH.nil
      refine step_append_cells (w0 := W1) (W := W1) (w.heap.size + 3) rfl _ _ 25 9 (.string ByteArray.empty) 1 16 rfl Tryd.underlying25 infoStr rfl (by decide) (by decide) v _ _ [.string (lowBA (s.extract x1.toNat M.toNat))] rfl rfl rfl (by simp [Value.oneCell']) hrow1 (Below.refl _ _) (by have := hb1.size; omega) ?hlen ?_
      case hlen => simp only [List.length_map]; omega
      intro v2 w2 hown2 hBb2 hg2 hat2
      obtain ⟨g', cap', rfl⟩ := ownsRow_succ hown2
      have hS2 : Boxed w2 w.heap.size 9 (.string s) := (hg2.block _ hS1.lt ?hne).trans hS1
      case hne => intro e; have := own_base hrow1 _ e.symm; omega
      have bX2 : w2.heap[Bx]? = some (.cells #[.int .i64 x1, .int .i64 x2] 39 (0, 0)) := (hg2.block _ (Array.getElem?_eq_some_iff.1 bX1).1 ?hne2).trans bX1
      case hne2 =>
        intro e
        obtain ⟨cells, hc⟩ := own_typed hrow1 Bx e.symm
        rw [bX1] at hc
        injection hc with hc
        injection hc with _ hc
        exact absurd hc (by decide)
      have hv2 : Boxed w2 (w.heap.size + 1) 25 v := (hg2.block _ hv1.lt (hv1.not_row (by decide) hrow1)).trans hv1
      have hv2c := hv2.cell
      have hv2f := hv2.frozen
      refine hK.out _ _ ⟨hS2.cell, by simp [World.cell?, bX2], by simp [World.cell?, bX2]⟩ (fun hHeld => ?_)
      clear hK K
      (try simp only [Act.put, List.setIfInBounds_toArray, List.set_cons_zero, List.set_cons_succ])
      refine wpAnyH_ready (rs := [14]) (by kernel_rfl) (by simp) ?_
      refine AllReadyH.cons (o := _) rfl (fun K hK => ?_) ?_
      rotate_left
      · exact AllReadyH.nil
      go_simp
      refine hK.out _ _ ⟨(hS2.other (by omega) _).cell, ?_, ?_⟩ (fun hHeld => ?_)
      · rw [World.cell?_setCell_other _ _ _ _ (by simp; try omega)]; simp [World.cell?, bX2]
      · rw [World.cell?_setCell_other _ _ _ _ (by simp; try omega)]; simp [World.cell?, bX2]
      clear hK K
      (try simp only [Act.put, List.setIfInBounds_toArray, List.set_cons_zero, List.set_cons_succ])
      refine wpAnyH_done (by kernel_rfl) ?_ _
      have hKO : KeepsOthers W (w2.setCell ⟨w.heap.size + 1, 0, none⟩ (.slice (some ⟨g', 0, none⟩) (pre.length + 1) cap')) :=
        ((⟨hb1.size, fun k o h _ => (hb1.block k (Array.getElem?_eq_some_iff.1 h).1).trans h⟩ : KeepsOthers W W1).trans (KeepsOthers.of_grownBy hg2 fun j o ej hj => (by
          obtain ⟨cells, hc⟩ := own_typed hrow1 j ej
          rw [hc] at hj; cases hj; rfl))).trans (KeepsOthers.setCell _ _ _)
      have hBw : Below w.heap.size W (w2.setCell ⟨w.heap.size + 1, 0, none⟩ (.slice (some ⟨g', 0, none⟩) (pre.length + 1) cap')) :=
        (((hb1.mono hB.size).grown hg2 (by have := hB.size; have := hb1.size; omega) (fun j ej => by have := own_base hrow1 j ej; omega)).setCell (p := ⟨w.heap.size + 1, 0, none⟩) (by simp) _)
      refine ⟨hKO.from _, ⟨hBw, fun c t f e => ?_⟩, ⟨⟨_, hv2.set _, ?_, trivial⟩, hS2.other (by omega) _⟩, hB.trans hBw, Nat.le_trans hle hBw.size⟩
      · have hlt2 : w.heap.size + 1 + 1 < W.heap.size := (Array.getElem?_eq_some_iff.1 e).1
        rw [Below.heap_setCell _ _ _ _ (by simp; try omega)]
        exact (hg2.block _ (by have := hb1.size; omega) (fun e' => by have := own_base hrow1 _ e'.symm; omega)).trans ((hb1.block _ hlt2).trans e)
      · have h2 := own_move (w1 := w2.setCell ⟨w.heap.size + 1, 0, none⟩ (.slice (some ⟨g', 0, none⟩) (pre.length + 1) cap')) hown2 (fun k hk => Below.heap_setCell _ _ _ _ (by have := own_base hown2 k hk; simp; omega))
        simpa [wordOf, hM] using h2
    go_simp
    refine hK.out _ _ hHeld (fun hHeld => ?_)
    clear hK K
    (try simp only [Act.put, List.setIfInBounds_toArray, List.set_cons_zero, List.set_cons_succ])
    refine wpAnyH_ready (rs := [11]) (by kernel_rfl) (by simp) ?_
    refine AllReadyH.cons (o := _) rfl (fun K hK => ?_) ?_
    rotate_left
    · exact AllReadyH.nil
    go_simp
    refine (small_calls _ _ hsz hasc).mono ?_
    rintro e W1 ⟨rfl, hb1'⟩
    have hb1 : Below W.heap.size W W1 := (Below.refl _ W).drew.trans hb1'
    clear hb1'
    refine hK.out _ _ ⟨(hb1.cell (p := ⟨w.heap.size, 0, none⟩) hS.lt).trans hcs, (hb1.cell (p := ⟨Bx, 0, none⟩) hBl).trans hc1, (hb1.cell (p := ⟨Bx, 1, none⟩) hBl).trans hc2⟩ (fun hHeld => ?_)
    clear hK K
    have hrow1 := own_move hrow (fun k hk => hb1.block k (own_lt hrow k hk))
    have hv1 : Boxed W1 (w.heap.size + 1) 25 v := (hb1.block _ hv.lt).trans hv
    have hS1 : Boxed W1 w.heap.size 9 (.string s) := (hb1.block _ hS.lt).trans hS
    have bX1 : W1.heap[Bx]? = some (.cells #[.int .i64 x1, .int .i64 x2] 39 (0, 0)) := (hb1.block _ hBl).trans bX
    have hv1c := hv1.cell
    (try simp only [Act.put, List.setIfInBounds_toArray, List.set_cons_zero, List.set_cons_succ])
    refine wpAnyH_ready (rs := [12]) (by kernel_rfl) (by simp) ?_
    refine AllReadyH.cons (o := _) rfl (fun K hK => ?_) ?_
    rotate_left
    · exact AllReadyH.nil
    go_simp
    refine hK.out _ _ ⟨(hS1.alloc _).cell, by simp [World.cell?, (Below.heap_alloc W1 (.cells #[.string (lowBA (s.extract x1.toNat M.toNat))] 9) Bx (Array.getElem?_eq_some_iff.1 bX1).1).trans bX1], by simp [World.cell?, (Below.heap_alloc W1 (.cells #[.string (lowBA (s.extract x1.toNat M.toNat))] 9) Bx (Array.getElem?_eq_some_iff.1 bX1).1).trans bX1]⟩ (fun hHeld => ?_)
    clear hK K
    have hv2c := (hv1.alloc (.cells #[.string (lowBA (s.extract x1.toNat M.toNat))] 9)).cell
    (try simp only [Act.put, List.setIfInBounds_toArray, List.set_cons_zero, List.set_cons_succ])
    refine wpAnyH_ready (rs := [13]) (by kernel_rfl) (by simp) ?_
    refine AllReadyH.cons (o := _) rfl (fun K hK => ?_) ?_
    rotate_left
    · exact AllReadyH.nil
    refine step_append_cells (w0 := W1) (W := W1) (w.heap.size + 3) rfl _ _ 25 9 (.string ByteArray.empty) 1 16 rfl Tryd.underlying25 infoStr rfl (by decide) (by decide) v _ _ [.string (lowBA (s.extract x1.toNat M.toNat))] rfl rfl rfl (by simp [Value.oneCell']) hrow1 (Below.refl _ _) (by have := hb1.size; omega) ?hlen ?_
    case hlen => simp only [List.length_map]; omega
    intro v2 w2 hown2 hBb2 hg2 hat2
    obtain ⟨g', cap', rfl⟩ := ownsRow_succ hown2
    have hS2 : Boxed w2 w.heap.size 9 (.string s) := (hg2.block _ hS1.lt ?hne).trans hS1
    case hne => intro e; have := own_base hrow1 _ e.symm; omega
    have bX2 : w2.heap[Bx]? = some (.cells #[.int .i64 x1, .int .i64 x2] 39 (0, 0)) := (hg2.block _ (Array.getElem?_eq_some_iff.1 bX1).1 ?hne2).trans bX1
    case hne2 =>
      intro e
      obtain ⟨cells, hc⟩ := own_typed hrow1 Bx e.symm
      rw [bX1] at hc
      injection hc with hc
      injection hc with _ hc
      exact absurd hc (by decide)
    have hv2 : Boxed w2 (w.heap.size + 1) 25 v := (hg2.block _ hv1.lt (hv1.not_row (by decide) hrow1)).trans hv1
    have hv2c := hv2.cell
    have hv2f := hv2.frozen
    refine hK.out _ _ ⟨hS2.cell, by simp [World.cell?, bX2], by simp [World.cell?, bX2]⟩ (fun hHeld => ?_)
    clear hK K
    (try simp only [Act.put, List.setIfInBounds_toArray, List.set_cons_zero, List.set_cons_succ])
    refine wpAnyH_ready (rs := [14]) (by kernel_rfl) (by simp) ?_
    refine AllReadyH.cons (o := _) rfl (fun K hK => ?_) ?_
    rotate_left
    · exact AllReadyH.nil
    go_simp
    refine hK.out _ _ ⟨(hS2.other (by omega) _).cell, ?_, ?_⟩ (fun hHeld => ?_)
    · rw [World.cell?_setCell_other _ _ _ _ (by simp; try omega)]; simp [World.cell?, bX2]
    · rw [World.cell?_setCell_other _ _ _ _ (by simp; try omega)]; simp [World.cell?, bX2]
    clear hK K
    (try simp only [Act.put, List.setIfInBounds_toArray, List.set_cons_zero, List.set_cons_succ])
    refine wpAnyH_done (by kernel_rfl) ?_ _
    have hKO : KeepsOthers W (w2.setCell ⟨w.heap.size + 1, 0, none⟩ (.slice (some ⟨g', 0, none⟩) (pre.length + 1) cap')) :=
      ((⟨hb1.size, fun k o h _ => (hb1.block k (Array.getElem?_eq_some_iff.1 h).1).trans h⟩ : KeepsOthers W W1).trans (KeepsOthers.of_grownBy hg2 fun j o ej hj => (by
        obtain ⟨cells, hc⟩ := own_typed hrow1 j ej
        rw [hc] at hj; cases hj; rfl))).trans (KeepsOthers.setCell _ _ _)
    have hBw : Below w.heap.size W (w2.setCell ⟨w.heap.size + 1, 0, none⟩ (.slice (some ⟨g', 0, none⟩) (pre.length + 1) cap')) :=
      (((hb1.mono hB.size).grown hg2 (by have := hB.size; have := hb1.size; omega) (fun j ej => by have := own_base hrow1 j ej; omega)).setCell (p := ⟨w.heap.size + 1, 0, none⟩) (by simp) _)
    refine ⟨hKO.from _, ⟨hBw, fun c t f e => ?_⟩, ⟨⟨_, hv2.set _, ?_, trivial⟩, hS2.other (by omega) _⟩, hB.trans hBw, Nat.le_trans hle hBw.size⟩
    · have hlt2 : w.heap.size + 1 + 1 < W.heap.size := (Array.getElem?_eq_some_iff.1 e).1
      rw [Below.heap_setCell _ _ _ _ (by simp; try omega)]
      exact (hg2.block _ (by have := hb1.size; omega) (fun e' => by have := own_base hrow1 _ e'.symm; omega)).trans ((hb1.block _ hlt2).trans e)
    · have h2 := own_move (w1 := w2.setCell ⟨w.heap.size + 1, 0, none⟩ (.slice (some ⟨g', 0, none⟩) (pre.length + 1) cap')) hown2 (fun k hk => Below.heap_setCell _ _ _ _ (by have := own_base hown2 k hk; simp; omega))
      simpa [wordOf, hM] using h2
  case done =>
    rintro D ys W hD hys ⟨⟨⟨v, hv, hrow, _⟩, hS⟩, hB, hle⟩ hK
    have hc := hv.cell
    have e1 : ys.map (fun x : Sp s => wordOf s x.1) = (spansOf s).map (wordOf s) := by
      unfold spansOf
      rw [← hL, ← hys, List.map_map]
      rfl
    rw [e1] at hrow
    gi_wp2
    refine ⟨by simp, .inl ⟨_, _, rfl, run_takeDeferred hK, ?_⟩⟩
    exact ⟨_, results_tmp rfl _ _ _, v, rfl, own_weaken (ownsRow_putObj hrow _ hK rfl) (by omega), hB.trans (belowK_b (w := w) (Nat.le_refl _) W D _ _ (by omega) hK rfl rfl)⟩
  case stop =>
    rintro D c pre W _ _ h _
    exact h.elim
end Go.Proofs.YtgiajodcempniaaDoor
