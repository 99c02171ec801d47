/- The law's small functions: pick, cut, fits, put; the calls on a nil disk. -/
import Derived.Test.YtmonlhgfgnfbdaaHDkCrash
namespace Go.Proofs.Ytmonlhgfgnfbdaa
open Go.RowKit Go.Lib Go.Proofs.YtmonlhgfgnfbdaaW.PrintWords Go.Proofs.YtmonlhgfgnfbdaaW.PrintLast Go.Proofs.YtmonlhgfgnfbdaaW.PrintMore
set_option linter.unusedVariables false
set_option linter.unusedSimpArgs false
set_option maxHeartbeats 16000000
set_option maxRecDepth 100000
/-- a number of Go's int -/
def Rng (a : Int) : Prop := -9223372036854775808 ≤ a ∧ a ≤ 9223372036854775807
theorem pick_calls (W : World) (a : Int) (n : Nat) (ha : Rng a) (hn : 0 < n) (hm : n ≤ 5000000) : Calls Try.prog 14 #[.int .i64 a, .int .i64 n] W fun e W' => ∃ r : Nat, r < n ∧ e = .returned (.int .i64 r) ∧ W' = W := by
  obtain ⟨h1, h2⟩ := ha
  go_enter Try.func14, Try.ntmps14
  by_cases c : a < 0
  · have d1 : decide (a < 0) = true := decide_eq_true c
    have w1 : IntKind.i64.wrap (a + 1) = a + 1 := by
      rw [IntKind.wrap_i64]
      omega
    have w2 : IntKind.i64.wrap (-(a + 1)) = -(a + 1) := by
      rw [IntKind.wrap_i64]
      omega
    go_wp2
    go_returns
    have hn' : (0 : Int) < n := by omega
    refine ⟨((-(a + 1)) % (n : Int)).toNat, ?_, ?_, rfl⟩
    · have := Int.emod_lt_of_pos (-(a + 1)) hn'
      have := Int.emod_nonneg (-(a + 1)) (Int.ne_of_gt hn')
      omega
    · rw [Int.toNat_of_nonneg (Int.emod_nonneg _ (Int.ne_of_gt hn')), ← Int.tmod_eq_emod_of_nonneg (by omega), Int.neg_tmod]
      rfl
  · have d1 : decide (a < 0) = false := decide_eq_false c
    go_wp2
    go_returns
    have hn' : (0 : Int) < n := by omega
    refine ⟨(a % (n : Int)).toNat, ?_, ?_, rfl⟩
    · have := Int.emod_lt_of_pos a hn'
      have := Int.emod_nonneg a (Int.ne_of_gt hn')
      omega
    · rw [Int.toNat_of_nonneg (Int.emod_nonneg _ (Int.ne_of_gt hn'))]
      rfl
def cutS_ (t : ByteArray) (n : Nat) : ByteArray := t.extract 0 (min t.size n)
theorem cut_calls_ (W : World) (t : ByteArray) (n : Nat) : Calls Try.prog 18 #[.string t, .int .i64 n] W fun e W' => e = .returned (.string (cutS_ t n)) ∧ W' = W := by
  go_enter Try.func18, Try.ntmps18
  go_wp2
  go_returns
  have e : (min (t.size : Int) (n : Int)).toNat = min t.size n := by omega
  rw [e]
  exact ⟨rfl, rfl⟩
theorem cutS__size (t : ByteArray) (n : Nat) : (cutS_ t n).size ≤ n ∧ (cutS_ t n).size ≤ t.size := by
  unfold cutS_
  rw [ByteArray.size_extract]
  omega
theorem read_nil (W : World) (o n : Int) : Calls Try.prog 13 #[.pointer none, .int .i64 o, .int .i64 n] W fun e W' => e = .returned (.tuple #[.string ⟨#[]⟩, .int .i64 1]) ∧ W' = W := by
  go_enter Try.func13, Try.ntmps13
  go_wp2_with (first | (go_at_call 24; refine (check_nil _).mono ?_; rintro e W' ⟨rfl, hW⟩; subst hW))
  go_returns
  exact ⟨rfl, rfl⟩
theorem write_nil (W : World) (o : Int) (t : ByteArray) : Calls Try.prog 17 #[.pointer none, .int .i64 o, .string t] W fun e W' => e = .returned (.int .i64 1) ∧ W' = W := by
  go_enter Try.func17, Try.ntmps17
  go_wp2_with (first | (go_at_call 24; refine (check_nil _).mono ?_; rintro e W' ⟨rfl, hW⟩; subst hW))
  go_returns
  exact ⟨rfl, rfl⟩
theorem sync_nil (W : World) : Calls Try.prog 19 #[.pointer none] W fun e W' => e = .returned (.int .i64 1) ∧ W' = W := by
  go_enter Try.func19, Try.ntmps19
  go_wp2_with (first | (go_at_call 24; refine (check_nil _).mono ?_; rintro e W' ⟨rfl, hW⟩; subst hW))
  go_returns
  exact ⟨rfl, rfl⟩
theorem cut_nil (W : World) (n : Int) : Calls Try.prog 20 #[.pointer none, .int .i64 n] W fun e W' => e = .returned (.int .i64 1) ∧ W' = W := by
  go_enter Try.func20, Try.ntmps20
  go_wp2_with (first | (go_at_call 24; refine (check_nil _).mono ?_; rintro e W' ⟨rfl, hW⟩; subst hW))
  go_returns
  exact ⟨rfl, rfl⟩
/-- a write's parameters, mapped onto the disk -/
theorem fits_calls (W : World) (o : Int) (t : ByteArray) (b : Bool) (size : Nat) (ho : Rng o) (hs : size ≤ 4194304) : Calls Try.prog 22 #[.agg #[.int .i64 o, .string t, .bool b], .int .i64 size] W fun e W' =>
    ∃ (k : Nat) (u : ByteArray), k + u.size ≤ size ∧ e = .returned (.agg #[.int .i64 k, .string u, .bool b]) ∧ Below W.heap.size W W' := by
  have hu := Try.underlying42
  have hw1 : IntKind.i64.wrap ((size : Int) + 1) = ((size + 1 : Nat) : Int) := by
    rw [IntKind.wrap_i64]
    omega
  have hbB := heap_alloc_new W (.cells #[.int .i64 o, .string t, .bool b] 42)
  go_enter Try.func22, Try.ntmps22
  go_upto_region 2 with (first | (go_at_call 14; refine (pick_calls _ o (size + 1) ho (by omega) (by omega)).mono ?_; rintro e W' ⟨r, hr, rfl, hW⟩; subst hW))
  have hw2 : IntKind.i64.wrap ((size : Int) - (r : Int)) = ((size - r : Nat) : Int) := by
    rw [IntKind.wrap_i64]
    omega
  have hsz := cutS__size t (size - r)
  generalize hcu : cutS_ t (size - r) = u at hsz
  go_wp2_with (first | (go_at_call 18; refine (cut_calls_ _ t (size - r)).mono ?_; rintro e W' ⟨rfl, hW⟩; subst hW; rw [hcu]))
  go_returns
  exact ⟨r, u, by omega, rfl, below_alloc (below_alloc (Below.refl _ _) _) _⟩
theorem over_step {bs l : List UInt8} {o i : Nat} (hi : i < l.length) (h : o + l.length ≤ bs.length) : (over bs o (l.take i)).set (o + i) l[i] = over bs o (l.take (i + 1)) := by
  have e1 : (l.take i).length = i := by rw [List.length_take]; omega
  have e2 : bs.drop (o + i) = bs[o + i] :: bs.drop (o + i + 1) := List.drop_eq_getElem_cons (by omega)
  have e3 : (bs.take o ++ l.take i).length = o + i := by rw [List.length_append, List.length_take, e1]; omega
  have e4 : l.take (i + 1) = l.take i ++ [l[i]] := by
    rw [List.take_add_one, List.getElem?_eq_getElem hi]
    rfl
  unfold over
  rw [e1, e2, List.set_append_right _ _ (by omega), e3, Nat.sub_self, List.set_cons_zero, e4, List.length_append, e1]
  simp only [List.append_assoc, List.cons_append, List.nil_append, List.length_cons, List.length_nil, Nat.add_assoc, Nat.zero_add]
theorem bcells_set (bs : List UInt8) (j : Nat) (b : UInt8) : (bcells bs).setIfInBounds j (.int .u8 b.toNat) = bcells (bs.set j b) := by
  unfold bcells
  rw [List.setIfInBounds_toArray, List.map_set]
/-- put: a string laid onto a row of bytes -/
theorem put_calls (W : World) (g n o : Nat) (bs : List UInt8) (t : ByteArray) (hg : W.heap[g]? = some (.cells (bcells bs) 5 (0, 0))) (hn : bs.length = n) (h : o + t.size ≤ n) (hm : n ≤ 4194304) : Calls Try.prog 23 #[.slice (some ⟨g, 0, none⟩) n n, .int .i64 o, .string t] W fun e W' =>
    e = .returned (.tuple #[]) ∧ W'.heap[g]? = some (.cells (bcells (over bs o (strL t))) 5 (0, 0)) ∧ KeepBut W W' g none ∧ ∀ B W0, B ≤ g → Below B W0 W → Below B W0 W' := by
  have HG := Aside0.mk hg
  clear hg
  go_enter Try.func23, Try.ntmps23
  go_wp2
  go_loopg [6] (t.size + 1) (fun gk v6 w' => ∃ i : Nat, v6 = .int .i64 i ∧ Aside0 (i ≤ t.size ∧ gk = t.size - i + 1 ∧ w'.heap[g]? = some (.cells (bcells (over bs o ((strL t).take i))) 5 (0, 0)) ∧ KeepBut W w' g none ∧ ∀ B W0, B ≤ g → Below B W0 W → Below B W0 w'))
  case atStart => exact ⟨0, rfl, ⟨by omega, by omega, by rw [List.take_zero, over_nil]; exact HG.out, KeepBut.refl _ _ _, fun _ _ _ h => h⟩⟩
  case round =>
    obtain ⟨i, rfl, HI⟩ := hrel
    by_cases hi : i < t.size
    · have hd : decide ((i : Int) < (t.size : Int)) = true := decide_eq_true (by omega)
      have hw1 : IntKind.i64.wrap ((o : Int) + (i : Int)) = ((o + i : Nat) : Int) := by
        rw [IntKind.wrap_i64]
        omega
      have hlt : (over bs o ((strL t).take i)).length = n := by rw [over_length (by rw [List.length_take, strL_length]; omega)]; exact hn
      have hoi : o + i < n := by omega
      have hcl := cell_of_heap HI.out.2.2.1 (o + i)
      rw [Array.getElem?_eq_getElem (by rw [bcells_size, hlt]; exact hoi)] at hcl
      have hfr := frozen_of_heap HI.out.2.2.1 (o + i)
      go_wp2
      go_roundg (t.size - i)
      case rel =>
        have e1 : t[i] = (strL t)[i]'(by rw [strL_length]; exact hi) := by simp [strL]; rfl
        refine ⟨i + 1, by simp <;> (first | omega | (unfold wrap64; omega)), ⟨by omega, by omega, ?_, HI.out.2.2.2.1.set_ _ _, fun B W0 hB h0 => (HI.out.2.2.2.2 B W0 hB h0).setCell (p := ⟨g, o + i, none⟩) hB _⟩⟩
        refine blk_put HI.out.2.2.1 (o + i) _ ?_
        rw [e1, bcells_set, over_step (by rw [strL_length]; exact hi) (by rw [strL_length, hn]; exact h)]
      case measure => have := HI.out.2.1; omega
    · have hd : decide ((i : Int) < (t.size : Int)) = false := decide_eq_false (by omega)
      obtain rfl : i = t.size := by have := HI.out.1; omega
      go_wp2
      go_returns
      refine ⟨rfl, ?_, HI.out.2.2.2.1, HI.out.2.2.2.2⟩
      have h1 := HI.out.2.2.1
      rwa [List.take_of_length_le (by rw [strL_length]; exact Nat.le_refl _)] at h1
end Go.Proofs.Ytmonlhgfgnfbdaa
