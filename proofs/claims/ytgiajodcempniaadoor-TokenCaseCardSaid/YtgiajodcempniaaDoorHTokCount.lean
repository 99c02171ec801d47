/- copydesk/token.Count: how often a term occurs among words. -/
import Derived.Test.YtgiajodcempniaaDoorHShelf
import Derived.Test.YtgiajodcempniaaDoorHTokSpec
import Derived.Maps.Own
import Derived.Maps.Views
import Derived.Maps.OwnOps
namespace Go.Proofs.YtgiajodcempniaaDoor
open Go.RowKit Go.WideMaps Go.Maps Go.Shelf Go.Proofs.YtgiajodcempniaaDoorW.PrintWords
set_option linter.unusedVariables false

def neS (t x : ByteArray) : Bool := !(x.toList == t.toList)

theorem count1_calls (t x : ByteArray) (Bt : Nat) (W : World) (hc : W.cell? ⟨Bt, 0, none⟩ = some (.string t)) :
    Calls Tryd.prog 27 #[.string x, .pointer (some ⟨Bt, 0, none⟩)] W fun e w' => e = .returned (.bool (neS t x)) ∧ w' = W := by
  go_enter Tryd.func27, Tryd.ntmps27
  go_wp2
  go_ret
  exact ⟨rfl, rfl⟩

set_option maxRecDepth 100000 in
/-- a slice of no element, nil or not: it comes back -/
theorem deleteFunc_empty (a : Option Addr) (c : Nat) (g : Value) (w : World) :
    Calls Tryd.prog 25 #[.slice a 0 c, g] w fun e w' => e = .returned (.slice a 0 c) ∧ w' = w := by
  have h1 : Calls Tryd.prog 35 #[.slice a 0 c, g] w fun e w' => e = .returned (.int .i64 (-1)) ∧ w' = w := by
    go_enter Tryd.func35, Tryd.ntmps35
    go_wp2
    refine wp_loop_rounds 1 ?_
    rw [rounds_succ]
    go_wp2
    go_ret
    exact ⟨rfl, rfl⟩
  go_enter Tryd.func25, Tryd.ntmps25
  go_wp2_with (go_at_call 35; refine h1.mono ?_; rintro e w' ⟨rfl, rfl⟩)
  go_ret
  exact ⟨rfl, rfl⟩

theorem strLaw : Keyed Tryd.prog 9 := string_keyed Tryd.underlying9
theorem zeroInt (w : World) : (zeroValue 3).run Tryd.prog w = .ok (.int .i64 0) w := by kernel_rfl

/-- the map behind n rounds: the term, n times -/
def Dn (t : ByteArray) : Nat → DataW Unit
  | 0 => .map []
  | n + 1 => (Dn t n).put (.string t.data.toList) (.lit (.int .i64 (n + 1)))

theorem wrap_nat (k : Nat) (h : k ≤ 140737488355328) : wrap64 ((k : Int) + 1) = k + 1 := by unfold wrap64; omega
theorem wf_succ (k : Nat) (h : k ≤ 140737488355328) : (Lit.int .i64 ((k : Int) + 1)).wf = true := by rw [← wrap_nat k h]; exact wrap64_wf _
theorem Dn_map (t : ByteArray) : ∀ n, IsMap (Dn t n)
  | 0 => isMap_empty
  | n + 1 => (Dn_map t n).put _ _
theorem Dn_at (t : ByteArray) (n : Nat) : (Dn t n).atKey (.string t.data.toList) (.lit (.int .i64 0)) = .lit (.int .i64 n) := by
  cases n with
  | zero => rfl
  | succ n =>
    unfold Dn
    rw [atKey_put_same (Dn_map t n) (by simp [WideAt.IsKeyLit])]
    simp

set_option maxRecDepth 100000 in
set_option maxHeartbeats 1000000 in
theorem add_calls (t : ByteArray) (ht : t.size ≤ maxLen) (B g o m cap : Nat) (w : World) (hm : m ≤ 140737488355328) (hown : w.ownsMap Tryd.prog 9 (plainElem Tryd.prog 3) B 0 (Dn t 0)) (hgB : g ≠ B)
    (hc : ∀ j, j < m → w.cell? ⟨g, o + j, none⟩ = some (.string t)) :
    Calls Tryd.prog 24 #[.map (some B), .slice (some ⟨g, o, none⟩) m cap] w fun e w' => e = .returned (.tuple #[]) ∧ w'.ownsMap Tryd.prog 9 (plainElem Tryd.prog 3) B m (Dn t m) ∧ w.grownBy w' (some B) := by
  have hkey : keyOf Tryd.prog 9 (.string t) = some (.string t.data.toList) := keyOf_string_mk Tryd.underlying9 ht
  go_enter Tryd.func24, Tryd.ntmps24
  go_wp2
  go_loopw [8] (fun i wr => ∃ k : Nat, k ≤ m ∧ i = .int .i64 k ∧ wr.ownsMap Tryd.prog 9 (plainElem Tryd.prog 3) B k (Dn t k) ∧ w.grownBy wr (some B))
    (fun i _ => m - (intOf i).toNat)
  case atStart => exact ⟨0, Nat.zero_le _, rfl, hown, World.grownBy.refl _ _⟩
  case round =>
    obtain ⟨k, hk, rfl, hown', hg⟩ := hrel
    have hcx : k < m → wr.cell? ⟨g, o + k, none⟩ = some (.string t) := fun h => hg.cell (hc k h) (by simpa using hgB)
    clear hc hown
    obtain ⟨c, hrun, hat, _⟩ := hown'.lookup_int strLaw Tryd.underlying42 Tryd.underlying3 (zeroInt _) hkey
    have hck : c = k := by rw [Dn_at] at hat; injection hat with hat; injection hat with _ hat; exact hat.symm
    subst hck
    have hk1 : k < maxLen := by unfold maxLen; omega
    have hwf : Aside0 ((Lit.int .i64 ((k : Int) + 1)).wf = true) := ⟨wf_succ k (by omega)⟩
    go_wp2_with (first
      | (at_mapUpdate; refine wpList_mapUpdate_own _ rfl _ _ _ 42 rfl 9 3 strLaw Tryd.underlying42 _ B k _ rfl hown' hk1 _ _ _ rfl rfl hkey _ [] (plainElem_int Tryd.underlying3 hwf.out) ?_)
      | go_in)
    · intro w1 hown1 hgrow1
      have hlt : k < m := by assumption
      have R1 : w1.ownsMap Tryd.prog 9 (plainElem Tryd.prog 3) B (k + 1) (Dn t (k + 1)) := by
        exact hown1
      have R2 := World.grownBy.trans hg hgrow1
      clear hown1 hgrow1 hown' hrun hat hcx
      go_wp2
      go_roundw
      case rel => exact ⟨k + 1, by omega, by go_num, R1, R2⟩
      case measure => simp [intOf]; omega
    · have : k = m := by omega
      subst this
      go_end0
      exact ⟨rfl, hown', hg⟩

theorem addr_plain {w : World} {ad : Addr} {v : Value} (h : w.cell? (ad.add 0) = some v) : ∃ b o, ad = ⟨b, o, none⟩ := by
  obtain ⟨b, o, s⟩ := ad
  cases s with
  | none => exact ⟨b, o, rfl⟩
  | some s =>
    simp only [Addr.add, if_pos] at h
    unfold World.cell? at h
    split at h <;> simp at h
theorem putRow_block {α : Type} [Inhabited α] (enc : α → Value) (w : World) (blk off : Nat) (d : Array α) (i : Nat) (h : i ≠ blk) : (Sort.putRow enc w blk off d).heap[i]? = w.heap[i]? := by
  simp [Sort.putRow, Sort.mapBlock, Array.getElem?_modify, Ne.symm h]
theorem own_cap {w : World} {base e size n g cap : Nat} {xs : List Value} (h : w.ownsRow base e size (.slice (some ⟨g, 0, none⟩) n cap) n xs) : n ≤ cap := by
  rcases h.2 with ⟨h', _⟩ | ⟨g', cap', cur, h', _, _, _, hc, _⟩
  · simp at h'
  · injection h' with _ _ h'; omega
theorem ba_ext {x y : ByteArray} (h : x.toList = y.toList) : x = y := by
  rw [ByteArray.toList_eq, ByteArray.toList_eq] at h
  exact ByteArray.ext (Array.ext' h)
theorem grownBy_below {w w' : World} {B n : Nat} (hg : w.grownBy w' (some B)) (hB : n ≤ B) (hn : n ≤ w.heap.size) : Below n w w' := ⟨hg.os, hg.tape, hg.output, hg.size, fun i hi => hg.block i (by omega) (by simp; omega)⟩

/-- how often the term occurs -/
def countOf (l : List ByteArray) (t : ByteArray) : Nat := (l.filter fun x => !neS t x).length

set_option maxRecDepth 100000 in
set_option maxHeartbeats 2000000 in
theorem count_calls (A : Option Addr) (c : Nat) (l : List ByteArray) (t : ByteArray) (w : World) (ht : t.size ≤ maxLen) (hl : l.length ≤ 8796093022208) (hr : Kd.C Kd.string w A l.length l) (hc : l.length ≤ c) :
    Calls Tryd.prog 18 #[.slice A l.length c, .string t] w fun e w' => e = .returned (.int .i64 (countOf l t)) ∧ Below w.heap.size w w' := by
  have HR := Aside0.mk hr
  have hkey : keyOf Tryd.prog 9 (.string t) = some (.string t.data.toList) := keyOf_string_mk Tryd.underlying9 ht
  have hmm := @run_makeMap Tryd.prog
  clear hr
  by_cases h0 : l.length = 0
  · obtain rfl : l = [] := List.eq_nil_of_length_eq_zero h0
    obtain ⟨W, hW⟩ : ∃ W, (w.alloc (.cells #[.string t] 9)).alloc (.map #[] 0) = W := ⟨_, rfl⟩
    have hBW : Below w.heap.size w W := by rw [← hW]; exact ((Below.refl _ w).alloc (Nat.le_refl _) _).alloc (by simp) _
    have hWz : W.heap.size = w.heap.size + 2 := by rw [← hW]; simp
    have hown0 : W.ownsMap Tryd.prog 9 (plainElem Tryd.prog 3) (w.heap.size + 1) 0 (Dn t 0) := by
      have h2 : ((w.alloc (.cells #[.string t] 9)).alloc (.map #[] 0)).ownsMap Tryd.prog 9 (plainElem (H := Unit) Tryd.prog 3) (w.alloc (.cells #[.string t] 9)).heap.size 0 (.map []) := World.ownsMap_made _ _ _ _
      rw [World.size_alloc, hW] at h2
      exact h2
    have hbt : W.cell? ⟨w.heap.size, 0, none⟩ = some (.string t) := by rw [← hW]; simp
    have hcl : Calls Tryd.prog 26 #[.slice A 0 c] W fun e w' => ∃ a1 c1, e = .returned (.slice a1 0 c1) ∧ Below W.heap.size W w' := by
      cases A with
      | none => exact (Tryd.slices_Clone_nil 0 c W).mono fun e w' ⟨he, hw⟩ => ⟨none, 0, he, hw ▸ Below.refl _ _⟩
      | some a =>
        refine (Tryd.slices_Clone_string_zero a c W).mono ?_
        rintro e w' ⟨v, he, ho, _, hb⟩
        rcases ho.2 with ⟨rfl, _⟩ | ⟨g, cap, _, rfl, _⟩
        · exact ⟨none, 0, he, hb⟩
        · exact ⟨_, cap, he, hb⟩
    have hadd : ∀ a1 c1 (W1 : World), Calls Tryd.prog 24 #[.map (some (w.heap.size + 1)), .slice a1 0 c1] W1 fun e w' => e = .returned (.tuple #[]) ∧ w' = W1 := by
      intro a1 c1 W1
      clear hW hbt hown0
      go_enter Tryd.func24, Tryd.ntmps24
      go_wp2
      refine wp_loop_rounds 1 ?_
      rw [rounds_succ]
      go_wp2
      go_end0
      exact ⟨rfl, rfl⟩
    show Calls _ _ #[.slice A 0 c, .string t] _ _
    go_enter Tryd.func18, Tryd.ntmps18
    go_wp2_with fail
    refine hcl.mono ?_
    rintro e W1 ⟨a1, c1, rfl, hb1⟩
    clear hW
    have hbt1 : W1.cell? ⟨w.heap.size, 0, none⟩ = some (.string t) := (hb1.cell (p := ⟨w.heap.size, 0, none⟩) (by show w.heap.size < _; omega)).trans hbt
    have hown1 : W1.ownsMap Tryd.prog 9 (plainElem Tryd.prog 3) (w.heap.size + 1) 0 (Dn t 0) := hown0.kept (grown_of_below hb1 none) (by simp)
    obtain ⟨cc, hrun, hat, _⟩ := hown1.lookup_int strLaw Tryd.underlying42 Tryd.underlying3 (zeroInt _) hkey
    have hcc : cc = 0 := by rw [Dn_at] at hat; injection hat with hat; injection hat with _ hat; exact hat.symm
    subst hcc
    clear hat
    go_wp2_with fail
    refine (deleteFunc_empty a1 c1 _ W1).mono ?_
    rintro e W2 ⟨rfl, rfl⟩
    go_wp2_with fail
    refine (hadd a1 c1 W2).mono ?_
    rintro e W3 ⟨rfl, rfl⟩
    go_wp2
    go_ret
    exact ⟨ret_i rfl, hBW.trans (hb1.mono (by omega))⟩
  · obtain ⟨ad, rfl, hcell⟩ := Kd.at_string HR.out 0 (by omega) (by omega)
    obtain ⟨b, o, rfl⟩ := addr_plain hcell
    have hrd : ∀ (j : Nat), j < l.length → w.cell? ⟨b, o + j, none⟩ = some (.string (l.getD j ByteArray.empty)) := by
      intro j hj
      obtain ⟨ad, e, h⟩ := Kd.at_string HR.out (j : Int) (by omega) (by omega)
      cases e
      simp only [Int.toNat_natCast] at h
      rw [show (⟨b, o, none⟩ : Addr).add j = ⟨b, o + j, none⟩ by unfold Addr.add; split <;> simp_all] at h
      rw [h]
      rfl
    have hbw : b < w.heap.size := World.block_lt_of_cell? w _ (hrd 0 (by omega))
    obtain ⟨W, hW⟩ : ∃ W, (w.alloc (.cells #[.string t] 9)).alloc (.map #[] 0) = W := ⟨_, rfl⟩
    have hBW : Below w.heap.size w W := by rw [← hW]; exact ((Below.refl _ w).alloc (Nat.le_refl _) _).alloc (by simp) _
    have hWz : W.heap.size = w.heap.size + 2 := by rw [← hW]; simp
    have hown0 : W.ownsMap Tryd.prog 9 (plainElem Tryd.prog 3) (w.heap.size + 1) 0 (Dn t 0) := by
      have h2 : ((w.alloc (.cells #[.string t] 9)).alloc (.map #[] 0)).ownsMap Tryd.prog 9 (plainElem (H := Unit) Tryd.prog 3) (w.alloc (.cells #[.string t] 9)).heap.size 0 (.map []) := World.ownsMap_made _ _ _ _
      rw [World.size_alloc, hW] at h2
      exact h2
    have hbt : W.heap[w.heap.size]? = some (.cells #[.string t] 9 (0, 0)) := by rw [← hW]; exact (Below.heap_alloc _ _ _ (by simp)).trans (World.alloc_heap_new w _)
    have cC := Tryd.slices_Clone_string b o l.length c l W (Nat.le_refl _) (by omega) (fun j hj => (hBW.cell (p := ⟨b, o + j, none⟩) hbw).trans (hrd j hj))
    rw [List.take_length] at cC
    have HRD := Aside0.mk hrd
    clear hrd
    go_enter Tryd.func18, Tryd.ntmps18
    go_wp2_with fail
    refine cC.mono ?_
    rintro e W1 ⟨v1, rfl, ho1, hn1, hb1⟩
    have hex : ∃ g cap, v1 = .slice (some ⟨g, 0, none⟩) l.length cap := by
      obtain ⟨n', hn'⟩ : ∃ n', l.length = n' + 1 := ⟨l.length - 1, by omega⟩
      rw [hn'] at ho1 ⊢
      exact ownsRow_succ ho1
    obtain ⟨g, cap, rfl⟩ := hex
    go_wp2_with fail
    have hgW : W.heap.size ≤ g := own_base ho1 g (by simp [Value.ownBlock])
    have hgl : g < W1.heap.size := own_lt ho1 g (by simp [Value.ownBlock])
    have hbt1 : W1.cell? ⟨w.heap.size, 0, none⟩ = some (.string t) := (hb1.cell (p := ⟨w.heap.size, 0, none⟩) (by show w.heap.size < _; omega)).trans (by simp [World.cell?, hbt])
    have hH : Sort.Holds Value.string W1 g 0 l.toArray := fun j hj => by
      have hj' : j < l.length := by simpa using hj
      refine ⟨?_, by rw [Nat.zero_add]; exact ho1.frozenAt j⟩
      rw [Nat.zero_add, ho1.cellAt j (by omega)]
      rw [List.getElem?_map, List.getElem?_eq_getElem hj']
      simp [getElem!_pos l.toArray j hj]
    have cD := Tryd.slices_DeleteFunc Value.string (fun _ => rfl) (neS t) 27 #[.pointer (some ⟨w.heap.size, 0, none⟩)] (enters_of Tryd.func27 (by kernel_rfl) rfl) ByteArray.empty Tryd.zeroValue9 g 0 cap l.toArray W1
      (fun W' x hb => (count1_calls t x w.heap.size W' ((hb.cell (p := ⟨w.heap.size, 0, none⟩) (by show w.heap.size < _; omega)).trans hbt1)).mono fun e w' ⟨he, hw⟩ => ⟨he, 0, hw⟩)
      (fun n os dk x _ => (count1_calls t x w.heap.size _ (by
        unfold sortWorld
        rw [Sort.cell?_grow _ _ _ (by show w.heap.size < (Sort.putRow _ _ _ _ _).heap.size; rw [Sort.size_putRow]; show w.heap.size < W1.heap.size; omega), Sort.cell?_putRow_other _ _ g 0 _ _ (Or.inl (by show w.heap.size ≠ g; omega))]
        exact hbt1)).mono fun e w' ⟨he, hw⟩ => ⟨he, 0, hw⟩)
      hH (by simp; omega) (by rw [List.size_toArray]; exact own_cap ho1)
    rw [List.size_toArray] at cD
    obtain ⟨r, hr⟩ : ∃ r, l.filter (fun x => !neS t x) = r := ⟨_, rfl⟩
    have hrl : r.length ≤ l.length := by rw [← hr]; exact List.length_filter_le _ _
    have hrt : ∀ x ∈ r, x = t := by
      intro x hx
      rw [← hr] at hx
      have h2 := (List.mem_filter.1 hx).2
      unfold neS at h2
      simp at h2
      exact ba_ext h2
    have hcnt : countOf l t = r.length := by unfold countOf; rw [hr]
    have HC := Aside0.mk (And.intro hcnt (And.intro hrl hrt))
    simp only [hr] at cD
    clear hcnt hrt hr
    refine cD.mono ?_
    rintro e W2 ⟨rfl, q, hW2⟩
    have hz2 : W2.heap.size = W1.heap.size := by rw [hW2]; exact Sort.size_putRow _ _ _ _ _
    have hbk2 : ∀ i, i ≠ g → W2.heap[i]? = W1.heap[i]? := fun i hi => by rw [hW2]; exact putRow_block _ _ _ _ _ _ hi
    have hc2 : ∀ j, j < r.length → W2.cell? ⟨g, 0 + j, none⟩ = some (.string t) := fun j hj => by
      rw [hW2, Sort.cell?_putRow Value.string _ g 0 l.toArray _ (Sort.holds_ahead _ _ _ _ _ _ hH) (by simp; omega) j (by simp; omega)]
      have h3 : j < (r ++ List.replicate (l.length - r.length) ByteArray.empty).toArray.size := by simp; omega
      rw [getElem!_pos _ j h3]
      simp only [List.getElem_toArray]
      rw [List.getElem_append_left hj]
      rw [HC.out.2.2 _ (List.getElem_mem hj)]
    have hown2 : W2.ownsMap Tryd.prog 9 (plainElem Tryd.prog 3) (w.heap.size + 1) 0 (Dn t 0) := by
      refine (hown0.kept (grown_of_below hb1 none) (by simp)).kept (w' := W2) (row := some g) ⟨by rw [hW2]; rfl, by rw [hW2]; rfl, by rw [hW2]; rfl, by omega, fun k _ hk => hbk2 k (by simpa using hk)⟩ (by simp; omega)
    have hbt2 : W2.cell? ⟨w.heap.size, 0, none⟩ = some (.string t) := by
      rw [show W2.cell? ⟨w.heap.size, 0, none⟩ = W1.cell? ⟨w.heap.size, 0, none⟩ from World.cell?_of_block (hbk2 _ (by show w.heap.size ≠ g; omega))]
      exact hbt1
    have hb2 : Below w.heap.size w W2 := hBW.trans ((hb1.mono (by omega)).trans ⟨by rw [hW2]; rfl, by rw [hW2]; rfl, by rw [hW2]; rfl, by omega, fun i hi => hbk2 i (by omega)⟩)
    clear cD cC hW2 hH
    go_wp2_with fail
    refine (add_calls t ht (w.heap.size + 1) g 0 r.length cap W2 (by omega) hown2 (by omega) hc2).mono ?_
    rintro e W3 ⟨rfl, hown3, hg3⟩
    have hbt3 : W3.cell? ⟨w.heap.size, 0, none⟩ = some (.string t) := hg3.cell hbt2 (by simp)
    obtain ⟨cc, hrun, hat, _⟩ := hown3.lookup_int strLaw Tryd.underlying42 Tryd.underlying3 (zeroInt _) hkey
    have hcc : cc = r.length := by rw [Dn_at] at hat; injection hat with hat; injection hat with _ hat; exact hat.symm
    subst hcc
    clear hat
    go_wp2
    go_ret
    refine ⟨ret_i (by rw [HC.out.1]), hb2.trans (grownBy_below hg3 (by omega) hb2.size)⟩

/-- token.Normal: the words, blanks between them. -/
theorem joinL_eq : ∀ (l : List (List UInt8)), Lib.join l [32] = Tok.join l
  | [] => rfl
  | [x] => by simp [Lib.join, Tok.join, List.intercalate]
  | x :: y :: l => by
    rw [Tok.join_cons x (by simp), ← joinL_eq (y :: l)]
    simp [Lib.join, List.intercalate]
theorem wgo_size : ∀ (l w : List UInt8), ((Tok.wgo l w).map fun x => x.length + 1).sum ≤ l.length + w.length + 1
  | [], w => by unfold Tok.wgo; split <;> simp
  | c :: l, w => by
    unfold Tok.wgo
    split
    · split
      · have := wgo_size l (w ++ [Tok.low c]); simp at this ⊢; omega
      · have := wgo_size l w; simp; omega
    · split
      · have := wgo_size l []; simp at this ⊢; omega
      · have := wgo_size l []; simp at this ⊢; omega
theorem join_size : ∀ (l : List (List UInt8)), (Tok.join l).length ≤ (l.map fun x => x.length + 1).sum
  | [] => by simp [Tok.join]
  | [x] => by simp [Tok.join]
  | x :: y :: l => by
    have := join_size (y :: l)
    rw [Tok.join_cons x (by simp)]
    simp at this ⊢
    omega
theorem words_len (l : List UInt8) : (Tok.words l).length ≤ l.length + 1 := by
  have h := wgo_size l []
  have h2 : ∀ (xs : List (List UInt8)), xs.length ≤ (xs.map fun x => x.length + 1).sum := by
    intro xs
    induction xs with
    | nil => simp
    | cons x xs ih => simp; omega
  have := h2 (Tok.wgo l [])
  unfold Tok.words
  simp at h
  omega

set_option maxRecDepth 100000 in
theorem normal_calls (s : ByteArray) (hs : s.size ≤ 1099511627776) (w : World) :
    Calls Tryd.prog 16 #[.string s] w fun e w' => e = .returned (.string (ba (Tok.normal s.data.toList))) ∧ Below w.heap.size w w' := by
  obtain ⟨ws, hws⟩ : ∃ ws, ws = wordsBA s := ⟨_, rfl⟩
  have hN : Tok.normal s.data.toList = Lib.join (ws.map (·.data.toList)) (⟨#[32]⟩ : ByteArray).data.toList := by
    rw [show (⟨#[32]⟩ : ByteArray).data.toList = [32] from rfl, joinL_eq, hws]
    unfold wordsBA Tok.normal
    rw [List.map_map]
    congr 1
    exact (List.map_id _).symm.trans (List.map_congr_left fun x _ => rfl)
  have hlen : (Lib.join (ws.map (·.data.toList)) (⟨#[32]⟩ : ByteArray).data.toList).length ≤ 140737488355328 := by
    rw [← hN]
    have h1 := join_size (Tok.words s.data.toList)
    have h2 := wgo_size s.data.toList []
    rw [sz] at h2
    unfold Tok.normal
    unfold Tok.words at h1
    simp at h2
    show (Tok.join (Tok.wgo s.data.toList [])).length ≤ _
    omega
  have hwl : ws.length ≤ 140737488355328 := by
    rw [hws]
    unfold wordsBA
    rw [List.length_map]
    have := words_len s.data.toList
    rw [sz] at this
    omega
  have hwc := words_calls s hs w
  rw [← hws] at hwc
  rw [hN]
  clear hws hN
  go_enter Tryd.func16, Tryd.ntmps16
  go_wp2_with fail
  refine hwc.mono ?_
  rintro e W1 ⟨v, rfl, ho, hb⟩
  have hown := Kd.own_of_R ho
  clear ho
  cases ws with
  | nil =>
    have hex : ∃ a c, v = .slice a 0 c := by
      rcases hown.2 with ⟨rfl, _⟩ | ⟨g, cap, _, rfl, _⟩
      · exact ⟨none, 0, rfl⟩
      · exact ⟨_, cap, rfl⟩
    obtain ⟨a, c, rfl⟩ := hex
    go_wp2_with (go_at_call 23; refine (Tryd.strings_Join_none a c _ _).mono ?_; rintro e W2 ⟨rfl, rfl⟩)
    go_ret
    exact ⟨rfl, hb⟩
  | cons x ws =>
    obtain ⟨g, cap, rfl⟩ := ownsRow_succ hown
    have hcap := own_cap hown
    have cJ := Tryd.strings_Join g 0 cap (x :: ws) ⟨#[32]⟩ W1 (fun j y hj => by
      have hjl : j < (x :: ws).length := (List.getElem?_eq_some_iff.1 hj).1
      rw [Nat.zero_add, hown.cellAt j (by simpa using hjl)]
      show ((x :: ws).map Value.string)[j]? = _
      rw [List.getElem?_map, hj]
      rfl) (own_lt hown g (by simp [Value.ownBlock])) hwl hcap hlen
    go_wp2_with (go_at_call 23; refine cJ.mono ?_; rintro e W2 ⟨rfl, hb2⟩)
    go_ret
    exact ⟨rfl, hb.trans (hb2.mono hb.size)⟩
end Go.Proofs.YtgiajodcempniaaDoor
