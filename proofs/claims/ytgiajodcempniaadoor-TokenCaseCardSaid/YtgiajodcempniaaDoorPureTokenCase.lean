/- The plain statement of TokenCase, proved. -/
import Derived.Test.YtgiajodcempniaaDoorPTokenCasex1
import Derived.Lib.ConvBytes
import Derived.Deep.RegionHeld3
namespace Go.Proofs.YtgiajodcempniaaDoor.Pure
open Go.RowKit Go.Proofs.YtgiajodcempniaaDoor.PTokenCase Go.Proofs.YtgiajodcempniaaDoorW.PrintWords Go.Proofs.YtgiajodcempniaaDoorW.PrintLast
open Go.Proofs.YtgiajodcempniaaDoor
theorem Ev_ifT {α : Type} {c : Prop} [Decidable c] {f g : Nat → Option α} {r : α} (hc : c) (h : Ev f r) : Ev (fun k => if c then f k else g k) r :=
  Ev.congr (fun _ => if_pos hc) h
theorem Ev_ifF {α : Type} {c : Prop} [Decidable c] {f g : Nat → Option α} {r : α} (hc : ¬ c) (h : Ev g r) : Ev (fun k => if c then f k else g k) r :=
  Ev.congr (fun _ => if_neg hc) h
theorem wrapS {i : Int} {n : Nat} (h0 : 0 ≤ i) (h : i < (n : Int)) (hn : n ≤ 140737488355328) : wrap64 (i + 1) = i + 1 := by unfold wrap64; omega
theorem rd_drop (l : List ByteArray) (i : Int) (h0 : 0 ≤ i) (h : i < l.length) : l.drop i.toNat = rdOf ByteArray.empty l i :: l.drop (i.toNat + 1) := by
  rw [List.drop_eq_getElem_cons (by omega)]
  congr 1
  simp [rdOf, List.getD_eq_getElem?_getD, List.getElem?_eq_getElem (show i.toNat < l.length by omega)]
theorem same_loop (a b : List ByteArray) (hab : a.length = b.length) (hn : a.length ≤ 140737488355328) : ∀ (d k : Nat) (i : Int), 0 ≤ i → i ≤ a.length → (a.length : Int) - i = d → d < k → copydeskref08_SameStrings.l0 k a b i = some (decide (a.drop i.toNat = b.drop i.toNat)) := by
  intro d
  induction d with
  | zero =>
    intro k i h0 h1 hd hk
    obtain ⟨k, rfl⟩ : ∃ m, k = m + 1 := ⟨k - 1, by omega⟩
    simp only [copydeskref08_SameStrings.l0]
    rw [if_neg (by omega), List.drop_eq_nil_of_le (by omega), List.drop_eq_nil_of_le (by omega)]
    rfl
  | succ d ih =>
    intro k i h0 h1 hd hk
    obtain ⟨k, rfl⟩ : ∃ m, k = m + 1 := ⟨k - 1, by omega⟩
    have hlt : i < (a.length : Int) := by omega
    simp only [copydeskref08_SameStrings.l0]
    rw [if_pos hlt, if_pos h0, if_pos (by omega)]
    by_cases e : (rdOf ByteArray.empty a i).toList = (rdOf ByteArray.empty b i).toList
    · rw [if_pos e, wrapS h0 hlt hn, ih k (i + 1) (by omega) (by omega) (by omega) (by omega)]
      rw [rd_drop a i h0 hlt, rd_drop b i h0 (by omega), ba_ext e, show (i + 1).toNat = i.toNat + 1 by omega]
      simp
    · rw [if_neg e, rd_drop a i h0 hlt, rd_drop b i h0 (by omega)]
      congr 1
      symm
      rw [decide_eq_false_iff_not]
      intro h
      injection h with h _
      exact e (by rw [h])
theorem same_ev (a b : List ByteArray) (hn : a.length ≤ 140737488355328) : Ev (fun k => copydeskref08_SameStrings.f k a b) (decide (a = b)) := by
  refine Ev.of (copydeskref08_SameStrings.mono a b) (k := a.length + 1) ?_
  unfold copydeskref08_SameStrings.f
  by_cases h : a.length = b.length
  · rw [if_pos (by omega), same_loop a b h hn a.length _ 0 (by omega) (by omega) (by omega) (by omega)]
    simp
  · rw [if_neg (by omega)]
    congr 1
    symm
    rw [decide_eq_false_iff_not]
    intro e
    exact h (by rw [e])
theorem words_f (s : ByteArray) (h : s.size ≤ 1099511627776) : token_Words.f s = some (wordsBA s) := by unfold token_Words.f; rw [if_pos h]
theorem normal_f (s : ByteArray) (h : s.size ≤ 1099511627776) : token_Normal.f s = some (ba (Tok.normal s.data.toList)) := by unfold token_Normal.f; rw [if_pos h]
theorem count_f (l : List ByteArray) (t : ByteArray) (h : l.length ≤ 8796093022208) (h' : t.size ≤ 140737488351232) : token_Count.f l t = some (countOf l t : Int) := by unfold token_Count.f; rw [if_pos ⟨h, h'⟩]
theorem wordsBA_len (s : ByteArray) : (wordsBA s).length ≤ s.size + 1 := by
  unfold wordsBA
  rw [List.length_map]
  have := words_len s.data.toList
  rw [sz] at this
  exact this
theorem sane_ev : Ev (fun k => copydesklaw16_sane.f k) true := by
  unfold copydesklaw16_sane.f
  rw [words_f _ (by decide)]
  have hw : wordsBA ⟨#[84, 104, 101, 32, 50, 110, 100, 44, 32, 116, 104, 101, 32, 84, 72, 73, 82, 68, 46]⟩ = [⟨#[116, 104, 101]⟩, ⟨#[50, 110, 100]⟩, ⟨#[116, 104, 101]⟩, ⟨#[116, 104, 105, 114, 100]⟩] := by rfl
  simp only [Option.bind_some]
  rw [hw]
  refine Ev.bind (same_ev _ _ (by decide)) ?_
  simp only [decide_true, if_true]
  rw [count_f _ _ (by decide) (by decide), normal_f _ (by decide)]
  have hc : countOf [⟨#[116, 104, 101]⟩, ⟨#[50, 110, 100]⟩, ⟨#[116, 104, 101]⟩, ⟨#[116, 104, 105, 114, 100]⟩] ⟨#[116, 104, 101]⟩ = 2 := by
    unfold countOf neS
    simp only [ByteArray.toList_eq]
    rfl
  have hn : ba (Tok.normal (⟨#[32, 32, 65, 45, 98, 32]⟩ : ByteArray).data.toList) = ⟨#[97, 32, 98]⟩ := by rfl
  simp only [Option.bind_some]
  rw [hc, hn, ByteArray.toList_eq]
  exact Ev.now _
theorem short_f (a : ByteArray) : copydesklaw16_short.f a = some (a.extract 0 (mn (a.size : Int) 600).toNat) := by
  unfold copydesklaw16_short.f
  rw [if_pos (by unfold mn; split <;> omega), if_pos (by unfold mn; split <;> omega)]
theorem short_size (a : ByteArray) : (a.extract 0 (mn (a.size : Int) 600).toNat).size ≤ 600 := by
  rw [ByteArray.size_extract]
  unfold mn
  split <;> omega
theorem ba_data (l : List UInt8) : (ba l).data.toList = l := rfl
theorem ba_inj {a b : List UInt8} (h : ba a = ba b) : a = b := by
  have := congrArg (fun x : ByteArray => x.data.toList) h
  exact this
theorem wordsBA_eq (a b : ByteArray) : wordsBA a = wordsBA b ↔ Tok.words a.data.toList = Tok.words b.data.toList := by
  unfold wordsBA
  constructor
  · intro h
    exact (List.map_inj_right (fun _ _ h => ba_inj h)).1 h
  · intro h; rw [h]
theorem normal_size (s : ByteArray) (h : s.size ≤ 600) : (ba (Tok.normal s.data.toList)).size ≤ 1099511627776 := by
  have h1 := join_size (Tok.words s.data.toList)
  have h2 := wgo_size s.data.toList []
  rw [sz] at h2
  unfold Tok.words at h1
  simp at h2
  show (Tok.join (Tok.wgo s.data.toList [])).toArray.size ≤ _
  rw [List.size_toArray]
  omega

theorem wgo_rel : ∀ (a b w : List UInt8), a.length = b.length → (∀ j (h : j < a.length) (h' : j < b.length), Tok.isP a[j] = Tok.isP b[j] ∧ Tok.low a[j] = Tok.low b[j]) → Tok.wgo a w = Tok.wgo b w
  | [], [], _, _, _ => rfl
  | [], _ :: _, _, h, _ => by simp at h
  | _ :: _, [], _, h, _ => by simp at h
  | c :: a, d :: b, w, hl, h => by
    have h0 := h 0 (by simp) (by simp)
    simp only [List.getElem_cons_zero] at h0
    have IH := fun w => wgo_rel a b w (by simpa using hl) (fun j h1 h2 => by
      have := h (j + 1) (by simpa using h1) (by simpa using h2)
      simpa using this)
    unfold Tok.wgo
    rw [h0.1, h0.2]
    simp only [IH]
/-- the number z stands for a byte that belongs to words as d does -/
def RI (z : Int) (d : UInt8) : Prop := ∃ c : UInt8, z = (c.toNat : Int) ∧ Tok.isP c = Tok.isP d ∧ Tok.low c = Tok.low d
theorem ri_self (d : UInt8) : RI (d.toNat : Int) d := ⟨d, rfl, rfl, rfl⟩
theorem swap_up : ∀ c : Fin 256, 97 ≤ c.val → c.val ≤ 122 → Tok.isP (UInt8.ofNat (c.val - 32)) = Tok.isP (UInt8.ofNat c.val) ∧ Tok.low (UInt8.ofNat (c.val - 32)) = Tok.low (UInt8.ofNat c.val) := by decide +kernel
theorem swap_down : ∀ c : Fin 256, 65 ≤ c.val → c.val ≤ 90 → Tok.isP (UInt8.ofNat (c.val + 32)) = Tok.isP (UInt8.ofNat c.val) ∧ Tok.low (UInt8.ofNat (c.val + 32)) = Tok.low (UInt8.ofNat c.val) := by decide +kernel
theorem ofNat_toNat' (c : UInt8) : UInt8.ofNat c.toNat = c := by simp
theorem ri_up {z : Int} {d : UInt8} (h : RI z d) (h1 : 97 ≤ z) (h2 : z ≤ 122) : RI (((z - 97) % 256 + 65) % 256) d := by
  obtain ⟨c, rfl, e1, e2⟩ := h
  have hc := c.toNat_lt
  have := swap_up ⟨c.toNat, hc⟩ (by simp only; omega) (by simp only; omega)
  simp only [ofNat_toNat'] at this
  refine ⟨UInt8.ofNat (c.toNat - 32), ?_, this.1.trans e1, this.2.trans e2⟩
  rw [UInt8.toNat_ofNat']
  omega
theorem ri_down {z : Int} {d : UInt8} (h : RI z d) (h1 : 65 ≤ z) (h2 : z ≤ 90) : RI (((z - 65) % 256 + 97) % 256) d := by
  obtain ⟨c, rfl, e1, e2⟩ := h
  have hc := c.toNat_lt
  have := swap_down ⟨c.toNat, hc⟩ (by simp only; omega) (by simp only; omega)
  simp only [ofNat_toNat'] at this
  refine ⟨UInt8.ofNat (c.toNat + 32), ?_, this.1.trans e1, this.2.trans e2⟩
  rw [UInt8.toNat_ofNat']
  omega
structure Rel (xs : List Int) (s : ByteArray) : Prop where
  len : xs.length = s.size
  at_ : ∀ (j : Nat) (h : j < s.data.toList.length), RI (rd xs (j : Int)) (s.data.toList[j])
theorem Rel.words {xs : List Int} {s : ByteArray} (h : Rel xs s) : wordsBA (strOfNums xs) = wordsBA s := by
  unfold wordsBA Tok.words
  rw [strOfNums_data]
  congr 1
  refine wgo_rel _ _ _ (by rw [List.length_map, h.len, sz]) (fun j h1 h2 => ?_)
  rw [List.getElem_map]
  obtain ⟨c, e0, e1, e2⟩ := h.at_ j h2
  have hj : j < xs.length := by simpa using h1
  have e3 : rd xs (j : Int) = xs[j] := by simp [rd, List.getD_eq_getElem?_getD, List.getElem?_eq_getElem hj]
  rw [← e3, e0]
  simp only [Int.toNat_natCast, ofNat_toNat']
  exact ⟨e1, e2⟩
theorem Rel.set {xs : List Int} {s : ByteArray} (h : Rel xs s) (i : Nat) (z : Int) (hi : i < s.data.toList.length) (hz : RI z (s.data.toList[i])) : Rel (xs.set i z) s := by
  refine ⟨by rw [List.length_set, h.len], fun j hj => ?_⟩
  have hjx : j < xs.length := by rw [h.len, ← sz]; exact hj
  by_cases e : i = j
  · subst e
    have : rd (xs.set i z) (i : Int) = z := by simp [rd, List.getD_eq_getElem?_getD, hjx]
    rw [this]; exact hz
  · have : rd (xs.set i z) (j : Int) = rd xs (j : Int) := by simp [rd, List.getD_eq_getElem?_getD, List.getElem?_set_ne e]
    rw [this]; exact h.at_ j hj
/-- the row that '[]byte(s)' has made -/
def BR (W : World) (B n : Nat) (xs : List Int) : Prop := ∃ cs, W.heap[B]? = some (.cells cs 5 (cs.size, cs.size + 1)) ∧ n ≤ cs.size ∧ xs.length = n ∧ ∀ j, j < n → cs[j]? = some (.int .u8 (rd xs (j : Int)))
theorem BR.cell {W : World} {B n : Nat} {xs : List Int} (h : BR W B n xs) (i : Int) (h0 : 0 ≤ i) (h1 : i < n) : W.cell? ⟨B, i.toNat, none⟩ = some (.int .u8 (rd xs i)) := by
  obtain ⟨cs, hb, hn, hl, hc⟩ := h
  have := hc i.toNat (by omega)
  rw [show ((i.toNat : Nat) : Int) = i by omega] at this
  simp [World.cell?, hb, this]
theorem BR.frozen {W : World} {B n : Nat} {xs : List Int} (h : BR W B n xs) (i : Int) (h0 : 0 ≤ i) (h1 : i < n) : W.frozen? ⟨B, i.toNat, none⟩ = false := by
  obtain ⟨cs, hb, hn, hl, hc⟩ := h
  simp [World.frozen?, hb]
  omega
theorem BR.set {W : World} {B n : Nat} {xs : List Int} (h : BR W B n xs) (i : Nat) (z : Int) (h1 : i < n) : BR (W.setCell ⟨B, i, none⟩ (.int .u8 z)) B n (xs.set i z) := by
  obtain ⟨cs, hb, hn, hl, hc⟩ := h
  refine ⟨cs.setIfInBounds i (.int .u8 z), ?_, by simp; omega, by rw [List.length_set, hl], fun j hj => ?_⟩
  · rw [Array.size_setIfInBounds]
    have hlt := (Array.getElem?_eq_some_iff.1 hb).1
    simp [World.setCell, Array.getElem?_modify, hb]
  · by_cases e : i = j
    · subst e
      have : rd (xs.set i z) (i : Int) = z := by simp [rd, List.getD_eq_getElem?_getD, hl, h1]
      rw [this, Array.getElem?_setIfInBounds_self_of_lt (by omega)]
    · have : rd (xs.set i z) (j : Int) = rd xs (j : Int) := by simp [rd, List.getD_eq_getElem?_getD, List.getElem?_set_ne e]
      rw [this, Array.getElem?_setIfInBounds_ne e]
      exact hc j hj
theorem BR.start (W : World) (s : ByteArray) : BR (Go.Lib.bytesWorld W 5 s) W.heap.size s.size (s.data.toList.map fun c => (c.toNat : Int)) := by
  refine ⟨_, Go.Lib.bytesWorld_at_new W 5 s, ?_, by rw [List.length_map, sz], fun j hj => ?_⟩
  · unfold Go.Lib.bytesCells
    rw [Array.size_append, Array.size_map]
    exact Nat.le_add_right _ _
  · have h2 := Go.Lib.bytesWorld_cell W 5 s j hj
    have hj' : j < s.data.toList.length := by rw [sz]; exact hj
    have e : rd (s.data.toList.map fun c => (c.toNat : Int)) (j : Int) = ((s.data.toList.getD j 0).toNat : Int) := by
      unfold rd
      rw [List.getD_eq_getElem?_getD, List.getD_eq_getElem?_getD, Int.toNat_natCast, List.getElem?_map, List.getElem?_eq_getElem hj']
      rfl
    rw [e]
    simpa [World.cell?, Go.Lib.bytesWorld_at_new] using h2
theorem rel_start (s : ByteArray) : Rel (s.data.toList.map fun c => (c.toNat : Int)) s := by
  refine ⟨by rw [List.length_map, sz], fun j hj => ?_⟩
  have : rd (s.data.toList.map fun c => (c.toNat : Int)) (j : Int) = ((s.data.toList[j]).toNat : Int) := by
    simp [rd, List.getD_eq_getElem?_getD, List.getElem?_eq_getElem hj]
  rw [this]; exact ri_self _
theorem bytes_below (W : World) (s : ByteArray) : Below W.heap.size W (Go.Lib.bytesWorld W 5 s) := ⟨rfl, rfl, rfl, by rw [Go.Lib.bytesWorld_size]; omega, fun k hk => Go.Lib.bytesWorld_at_old W 5 s k hk⟩
theorem BR.step {W W' : World} {B n : Nat} {xs : List Int} (h : BR W B n xs) (hb : Below W.heap.size W W') : BR W' B n xs := by
  obtain ⟨cs, h1, h2⟩ := h
  exact ⟨cs, (hb.block B (Array.getElem?_eq_some_iff.1 h1).1).trans h1, h2⟩
theorem conv_eq {W : World} {B n cap : Nat} {xs : List Int} (h : BR W B n xs) : (convert 32 9 (.slice (some ⟨B, 0, none⟩) n cap)).run Tryd.prog W = .ok (.string (strOfNums xs)) W :=
  run_convert_bytes_arg W 32 5 Tryd.underlying32 Tryd.underlying5 B 0 n cap xs (by obtain ⟨_, _, _, h, _⟩ := h; exact h) (fun i hi => by
    have := h.cell i (by omega) (by omega)
    rw [Nat.zero_add]
    simpa [rd] using this) 9 Tryd.underlying9

set_option maxHeartbeats 4000000 in
set_option maxRecDepth 100000 in
theorem case_calls (a0 : ByteArray) (n : Int) (w : World) : Calls Tryd.prog 9 #[.string a0, .int .i64 n] w fun e w' => e = .returned (.bool true) ∧ Below w.heap.size w w' := by
  obtain ⟨k, hk⟩ := sane_ev.rounds
  have hs0 := short_size a0
  have hsf := short_f a0
  obtain ⟨s, hs⟩ : ∃ s, a0.extract 0 (mn (a0.size : Int) 600).toNat = s := ⟨_, rfl⟩
  rw [hs] at hs0 hsf
  have HSF := Aside0.mk hsf
  have HK := Aside0.mk hk
  have hconv : ∀ W : World, (convert 9 32 (.string s)).run Tryd.prog W = .ok (.slice (some ⟨W.heap.size, 0, none⟩) s.size (grownCap W s.size 0 5)) (Go.Lib.bytesWorld W 5 s) := fun W => Go.Lib.run_convert_string_bytes W 9 32 5 s Tryd.underlying9 Tryd.underlying32 Tryd.underlying5
  clear hs hk hsf
  go_enter Tryd.func9, Tryd.ntmps9
  go_wp2_with (first | (go_at_call 11; refine (copydesklaw16_sane.calls k true _ HK.out).mono ?_; rintro e w1 ⟨rfl, hb1⟩; have HB1 := Aside0.mk hb1; clear hb1) | (go_at_call 12; refine (copydesklaw16_short.calls a0 s _ HSF.out).mono ?_; rintro e w2 ⟨rfl, hb2⟩; have HB2 := Aside0.mk (HB1.out.trans (hb2.mono HB1.out.size)); clear hb2))
  generalize grownCap w2 s.size 0 5 = cap
  have HL := Aside0.mk (Below.trans HB2.out ((bytes_below w2 s).mono HB2.out.size))
  have HR := Aside0.mk (BR.start w2 s)
  have HN := Aside0.mk HB2.out.size
  generalize Go.Lib.bytesWorld w2 5 s = W0 at HL HR ⊢
  clear hconv
  obtain ⟨B, hB⟩ : ∃ B, w2.heap.size = B := ⟨_, rfl⟩
  rw [hB] at HR HN ⊢
  clear hB HB2
  go_loopg [7] (s.size + 1) (fun gk v w' => ∃ (i : Int) (xs : List Int), v = .int .i64 i ∧ Aside0 (0 ≤ i ∧ i ≤ s.size ∧ (gk : Int) = s.size - i + 1 ∧ Rel xs s ∧ BR w' B s.size xs ∧ Below w.heap.size w w'))
  case atStart => exact ⟨0, _, rfl, ⟨⟨by omega, by omega, by omega, rel_start s, HR.out, HL.out⟩⟩⟩
  case round =>
    clear HL HR
    obtain ⟨i, xs, rfl, HI⟩ := hrel
    by_cases hlt : i < (s.size : Int)
    · obtain ⟨h0, h1, hg, hrel, hbr, hbel⟩ := HI.out
      have hc := hbr.cell i h0 hlt
      have hf := hbr.frozen i h0 hlt
      have hm : 0 ≤ Int.tmod i 60 := Int.tmod_nonneg _ h0
      have hw : wrap64 (i + 1) = i + 1 := by unfold wrap64; omega
      have H1 := Aside0.mk hrel
      have H2 := Aside0.mk hbr
      have H3 := Aside0.mk hbel
      clear HI hrel hbr hbel h1
      obtain ⟨z, hz⟩ : ∃ z, rd xs i = z := ⟨_, rfl⟩
      rw [hz] at hc
      have HZ := Aside0.mk hz
      clear hz
      have hi' : i.toNat < s.data.toList.length := by rw [sz]; omega
      have HRI := Aside0.mk (show RI z (s.data.toList[i.toNat]'hi') by
        have := H1.out.at_ i.toNat hi'
        rw [show ((i.toNat : Nat) : Int) = i by omega, HZ.out] at this
        exact this)
      go_wp2
      all_goals (
        go_roundg ((s.size : Int) - (i + 1) + 1).toNat
        (case rel => first
          | exact ⟨i + 1, xs, rfl, ⟨⟨by omega, by omega, by omega, H1.out, H2.out, H3.out⟩⟩⟩
          | exact ⟨i + 1, xs.set i.toNat _, rfl, ⟨⟨by omega, by omega, by omega, H1.out.set i.toNat _ (by rw [sz]; omega) (by first | exact ri_up HRI.out (by omega) (by omega) | exact ri_down HRI.out (by omega) (by omega) | (have h := ri_up HRI.out (by omega) (by omega); rwa [show ((z - 97) % 256 + 65) % 256 = z - 97 + 65 by omega] at h) | (have h := ri_down HRI.out (by omega) (by omega); rwa [show ((z - 65) % 256 + 97) % 256 = z - 65 + 97 by omega] at h)), H2.out.set i.toNat _ (by omega), H3.out.setCell HN.out _⟩⟩⟩)
        (case measure => omega))
    · have HQ := Aside0.mk (And.intro HI.out.2.2.2.2.1 HI.out.2.2.2.2.2)
      have HREL := Aside0.mk HI.out.2.2.2.1
      have hwx : wordsBA (strOfNums xs) = wordsBA s := HREL.out.words
      have HW1 := Aside0.mk (words_f s (by omega))
      have HW2 := Aside0.mk (show token_Words.f (strOfNums xs) = some (wordsBA s) by
        rw [words_f (strOfNums xs) (by rw [strOfNums_size, HREL.out.len]; omega), hwx])
      obtain ⟨k2, hk2⟩ := (same_ev (wordsBA s) (wordsBA s) (by have := wordsBA_len s; omega)).rounds
      rw [decide_eq_true rfl] at hk2
      have HK2 := Aside0.mk hk2
      clear HI hwx hk2
      go_wp2
      have HQ := Aside0.mk (show BR wr.drew B s.size xs ∧ Below w.heap.size w wr.drew from ⟨HQ.out.1, below_drew1 HQ.out.2⟩)
      go_region_held3 (fun W => (convert 32 9 (.slice (some ⟨B, 0, none⟩) s.size cap)).run Tryd.prog W = .ok (.string (strOfNums xs)) W) (exact conv_eq HQ.out.1)
        (first | (go_at_call 12; with_reducible refine (copydesklaw16_short.calls a0 s _ HSF.out).mono ?_; rintro e w3 ⟨rfl, hb3⟩; have HQ := Aside0.mk (show BR w3 B s.size xs ∧ Below w.heap.size w w3 from ⟨HQ.out.1.step hb3, HQ.out.2.trans (hb3.mono HQ.out.2.size)⟩); clear hb3) | (go_at_call 14; with_reducible refine (token_Words.calls s (wordsBA s) _ HW1.out).mono ?_; rintro e w4 ⟨v1, rfl, hR1, hb4⟩; obtain ⟨A1, c1, rfl, hl1, hC1⟩ := Kd.R_reads hR1; have HC1 := Aside0.mk (And.intro hl1 hC1); have HQ := Aside0.mk (show BR w4 B s.size xs ∧ Below w.heap.size w w4 from ⟨HQ.out.1.step hb4, HQ.out.2.trans (hb4.mono HQ.out.2.size)⟩); clear hb4 hl1 hC1 hR1) | (go_at_call 14; with_reducible refine (token_Words.calls (strOfNums xs) (wordsBA s) _ HW2.out).mono ?_; rintro e w5 ⟨v2, rfl, hR2, hb5⟩; obtain ⟨A2, c2, rfl, hl2, hC2⟩ := Kd.R_reads hR2; have HC2 := Aside0.mk (And.intro hl2 hC2); have HC1 := Aside0.mk (And.intro HC1.out.1 (Kd.C_below HC1.out.2 hb5)); have HQ := Aside0.mk (show BR w5 B s.size xs ∧ Below w.heap.size w w5 from ⟨HQ.out.1.step hb5, HQ.out.2.trans (hb5.mono HQ.out.2.size)⟩); clear hb5 hl2 hC2 hR2) | (go_at_call 13; refine (copydeskref08_SameStrings.calls k2 A1 c1 (wordsBA s) A2 c2 (wordsBA s) true _ HC1.out.2 HC1.out.1 HC2.out.2 HC2.out.1 HK2.out).mono ?_; rintro e w6 ⟨rfl, ⟨nd, rfl⟩⟩))
      all_goals go_wp2
      all_goals go_ret
      all_goals exact ⟨rfl, by first | exact HQ.out.2 | exact pw_below_drewN HQ.out.2 _ | exact below_drew1 (pw_below_drewN HQ.out.2 _)⟩

end Go.Proofs.YtgiajodcempniaaDoor.Pure
