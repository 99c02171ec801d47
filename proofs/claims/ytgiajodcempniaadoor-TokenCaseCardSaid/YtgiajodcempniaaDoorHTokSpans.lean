/- copydesk/token.spans: an iterator over the runs of letters and digits: what it hands to the loop's body. -/
import Derived.RangeFuncBox
import Derived.RangeFuncNested
import Derived.RangeFuncBound
import Derived.RangeFuncCalls
import Derived.RangeFuncLeaves
import Derived.Shelf.Abstract
import Derived.WalkKit
import Derived.Outline
import Derived.OwnWalkIn
import Derived.TacticsInMore
import Derived.LoopNIn
import Derived.LoopIn
import Derived.Maps.AppendAt
import Derived.Test.YtgiajodcempniaaDoorHTokNext
import Derived.Test.YtgiajodcempniaaDoorHFenceMore
namespace Go.Proofs.YtgiajodcempniaaDoor
open Go.RowKit Go.Shelf Go.Proofs.YtgiajodcempniaaDoorW.PrintWords
set_option linter.unusedVariables false
attribute [local go_sem] Oper.semAt_some

/-- the runs from a on: the first byte, and the byte behind the last -/
def spans (s : ByteArray) : Nat → Int → List (Int × Int)
  | 0, _ => []
  | k + 1, a => if a < s.size then (a, nxt s a false) :: spans s k (nxt s (nxt s a false) true) else []

/-- a run of letters and digits of s -/
abbrev Sp (s : ByteArray) := { x : Int × Int // 0 ≤ x.1 ∧ x.1 ≤ x.2 ∧ x.2 ≤ s.size ∧ ∀ j, x.1 ≤ j → j < x.2 → isPI (bt s j) = true }
/-- what a round that goes on keeps: all that lies below B, and the block Bn where it is one of cells -/
def KpB (Bn B : Nat) (W W' : World) : Prop := Below B W W' ∧ ∀ c t f, W.heap[Bn]? = some (.cells c t f) → W'.heap[Bn]? = some (.cells c t f)
theorem KpB.t {Bn B : Nat} {X Y Z : World} (h : KpB Bn B X Y) (k : KpB Bn B Y Z) : KpB Bn B X Z := ⟨h.1.trans k.1, fun c t f e => k.2 c t f (h.2 c t f e)⟩
theorem KpB.b {Bn B : Nat} {w0 : World} (hB : B ≤ w0.heap.size) (W : World) (l : Nat) (o o' : Obj) (hl : w0.heap.size ≤ l) (h : W.heap[l]? = some o) (hc : o.isCells = false) (hw : o.isWalk = false) : KpB Bn B W (W.putObj l o') :=
  ⟨belowK_b hB W l o o' hl h hc hw, fun c t f e => by
    rw [World.putObj_heap_other (fun e' => by rw [e', h] at e; cases e; cases hc)]
    exact e⟩
/-- all runs have come, or some, a round having said that no more is wanted -/
def SpPost (s : ByteArray) (K : Nat) (A : Int) (J Jx : List (Sp s) → World → Prop) (e : Ending) (W' : World) : Prop :=
  (∃ v, e = .returned v) ∧ ((∃ ys : List (Sp s), ys.map (·.1) = spans s K A ∧ J ys W') ∨ (∃ pre : List (Sp s), pre.map (·.1) <+: spans s K A ∧ Jx pre W'))

set_option maxRecDepth 100000 in
set_option maxHeartbeats 4000000 in
theorem spans1_in (n : Nat) (l Bn n₀ K : Nat) (s : ByteArray) (hs : s.size ≤ 140737488351232) (J Jx : List (Sp s) → World → Prop)
    (hK : s.size + 1 ≤ K)
    (hY : ∀ pre x W, J pre W → pre.length < K → YieldAt Fence.wide (n - 1) Tryd.prog l #[.agg #[.int .i64 x.1.1, .int .i64 x.1.2]] W fun e W' =>
      (e = .returned (.bool true) ∧ J (pre ++ [x]) W' ∧ KpB Bn n₀ W W') ∨ (e = .returned (.bool false) ∧ Jx (pre ++ [x]) W'))
    (W : World) (hc : Boxed W Bn 9 (.string s)) (h0 : J [] W) :
    CallsIn Fence.wide n Tryd.prog 28 #[.func (.yield l) #[] #[], .pointer (some ⟨Bn, 0, none⟩)] W (SpPost s K (nxt s 0 true) J Jx) := by
  refine callsIn_of_wp Tryd.func28 rfl trivial ?_ rfl
  simp only [Tryd.ntmps28, List.size_toArray, List.length_cons, List.length_nil, Nat.reduceAdd, Nat.reduceSub, Array.replicate_succ, Array.replicate_zero, List.push_toArray, List.append_toArray, List.nil_append, List.cons_append]
  refine wpIn_scope_straight ?_
  have hcc := hc.cell
  gi_wp2_with (refine ⟨trivial, (fun h => by cases h), ?_⟩; gi_at_call 29; refine (callsIn_wide.2 (next_calls s 0 true _ (by omega) (by omega) (by omega))).mono ?_; rintro e w' ⟨rfl, rfl⟩)
  refine wpIn_label ?_
  gi_wp2
  obtain ⟨A0, hA0⟩ : ∃ A0, A0 = nxt s 0 true := ⟨_, rfl⟩
  have hb0 := nxt_bd s 0 true (by omega) (by omega)
  have ht0 := nxt_hit s true s.size 0 (by omega) (by omega)
  rw [← hA0] at hb0 ht0 ⊢
  gi_loopw [3] (fun p wr => ∃ (pre : List (Sp s)) (k : Nat) (a : Int), p = .int .i64 a ∧ Aside0 (0 ≤ a ∧ a ≤ s.size ∧ (a < s.size → isPI (bt s a) = true) ∧ pre.length + k = K ∧ spans s K A0 = pre.map (·.1) ++ spans s k a ∧ s.size - a.toNat + 1 ≤ k) ∧ Boxed wr Bn 9 (.string s) ∧ J pre wr)
    (fun p wr => s.size - (intOf p).toNat)
  case atStart =>
    exact ⟨[], K, A0, rfl, ⟨by omega, by omega, ht0, by simp, by simp, by omega⟩, hc, h0⟩
  case round =>
    obtain ⟨pre, k, a, rfl, HI, hbx, hJs⟩ := hrel
    have hcr := hbx.cell
    clear h0 hc hcc hb0 ht0 hA0
    by_cases ha : a < s.size
    · have hd1 : decide (a < (s.size : Int)) = true := decide_eq_true ha
      have c1 := next_calls s a false
      obtain ⟨E, hE⟩ : ∃ E, E = nxt s a false := ⟨_, rfl⟩
      have hb1 := nxt_bd s a false HI.out.1 HI.out.2.1
      have hgt : a < E := by
        rw [hE, nxt_step s a false HI.out.1 ha (by rw [HI.out.2.2.1 ha]; simp)]
        have := nxt_bd s (a + 1) false (by have := HI.out; omega) (by omega)
        omega
      have c2 := next_calls s E true
      obtain ⟨A2, hA2⟩ : ∃ A2, A2 = nxt s E true := ⟨_, rfl⟩
      have hb2 := nxt_bd s E true (by have := HI.out; omega) (by omega)
      have ht2 := nxt_hit s true s.size E (by have := HI.out; omega) (by have := HI.out; omega)
      have hal := nxt_all s false s.size a HI.out.1 (by have := HI.out; omega)
      rw [← hE] at c1 hb1 hal
      rw [← hA2] at c2 hb2 ht2
      have hsp : spans s k a = (a, E) :: spans s (k - 1) A2 := by
        obtain ⟨k', rfl⟩ : ∃ k', k = k' + 1 := ⟨k - 1, by have := HI.out; omega⟩
        simp only [spans, if_pos ha, ← hE, ← hA2, Nat.add_sub_cancel]
      have HB := Aside0.mk (And.intro hb1 (And.intro hb2 (And.intro ht2 (And.intro hsp hgt))))
      have H0 := HI.out
      have hsub : 0 ≤ (a, E).1 ∧ (a, E).1 ≤ (a, E).2 ∧ (a, E).2 ≤ s.size ∧ ∀ j, (a, E).1 ≤ j → j < (a, E).2 → isPI (bt s j) = true := ⟨H0.1, by show a ≤ E; omega, by show E ≤ _; omega, fun j h1 h2 => hal j h1 h2⟩
      clear hal
      obtain ⟨fn, tmps, assign, body, hy, hR⟩ := hY pre ⟨(a, E), hsub⟩ wr hJs (by omega)
      clear hE hA2 hb1 hb2 ht2 hsp hgt H0
      gi_wp2_with (first | (refine ⟨trivial, (fun h => by cases h), ?_⟩; gi_at_call 29; refine (callsIn_wide.2 (c1 _ (by omega) HI.out.1 HI.out.2.1)).mono ?_; rintro e w' ⟨rfl, rfl⟩; clear c1))
      refine ⟨(fun h => by cases h), hR.mono ?_⟩
      rintro e W3 (⟨rfl, hJ3, hk3⟩ | ⟨rfl, hJx3⟩)
      · have hb3 : Boxed W3 Bn 9 (.string s) := hk3.2 _ _ _ hbx
        have hc3 := hb3.cell
        clear hR hy hY
        gi_wp2_with (refine ⟨trivial, (fun h => by cases h), ?_⟩; gi_at_call 29; refine (callsIn_wide.2 (c2 _ (by omega) (by have := HI.out; have := HB.out.1; omega) HB.out.1.2)).mono ?_; rintro e w' ⟨rfl, rfl⟩; clear c2)
        go_roundw
        case rel =>
          have H0 := HI.out
          have H1 := HB.out
          exact ⟨pre ++ [⟨(a, E), hsub⟩], k - 1, A2, rfl, ⟨by omega, by omega, H1.2.2.1, by simp; omega, by rw [H0.2.2.2.2.1, H1.2.2.2.1]; simp, by omega⟩, hb3, hJ3⟩
        case measure => have H0 := HI.out; have H1 := HB.out; simp [intOf]; omega
      · clear hR hy hY
        gi_wp2
        simp only [Exit.noGoto]
        go_end0
        exact ⟨⟨_, rfl⟩, .inr ⟨pre ++ [⟨(a, E), hsub⟩], ⟨spans s (k - 1) A2, by rw [HI.out.2.2.2.2.1, HB.out.2.2.2.1]; simp⟩, hJx3⟩⟩
    · have hd1 : decide (a < (s.size : Int)) = false := decide_eq_false ha
      gi_wp2
      go_end0
      refine ⟨⟨_, rfl⟩, .inl ⟨pre, ?_, hJs⟩⟩
      rw [HI.out.2.2.2.2.1]
      obtain ⟨k', rfl⟩ : ∃ k', k = k' + 1 := ⟨k - 1, by have := HI.out; omega⟩
      simp only [spans, if_neg (show ¬ a < (s.size : Int) by omega), List.append_nil]

/-- spans(s): the parameter is boxed; the function value captures the box. -/
theorem spans_in (n : Nat) (s : ByteArray) (w : World) :
    CallsIn Fence.wide n Tryd.prog 21 #[.string s] w fun e w' => e = .returned (.func (.func 28) #[] #[.pointer (some ⟨w.heap.size, 0, none⟩)]) ∧ w' = w.alloc (.cells #[.string s] 9) := by
  refine callsIn_of_wp Tryd.func21 rfl trivial ?_ rfl
  simp only [Tryd.ntmps21, List.size_toArray, List.length_cons, List.length_nil, Nat.reduceAdd, Nat.reduceSub, Array.replicate_succ, Array.replicate_zero, List.push_toArray, List.append_toArray, List.nil_append, List.cons_append]
  gi_wp2
  go_ret
  exact ⟨rfl, rfl⟩

theorem spans_stops (n : Nat) (Bn n₀ K : Nat) (s : ByteArray) (hs : s.size ≤ 140737488351232) (hK : s.size + 1 ≤ K) (w : World) (hc : Boxed w Bn 9 (.string s)) :
    SeqStopsK Fence.wide n Tryd.prog 28 #[.pointer (some ⟨Bn, 0, none⟩)] (fun x : Sp s => #[.agg #[.int .i64 x.1.1, .int .i64 x.1.2]]) (KpB Bn n₀) (fun ys => ys.map (·.1) = spans s K (nxt s 0 true)) (fun pre => pre.map (·.1) <+: spans s K (nxt s 0 true)) K w := fun l J Jx W hW _ _ hY h0 =>
  spans1_in n l Bn n₀ K s hs J Jx hK hY W ((hW.block _ hc.lt).trans hc) h0
end Go.Proofs.YtgiajodcempniaaDoor
