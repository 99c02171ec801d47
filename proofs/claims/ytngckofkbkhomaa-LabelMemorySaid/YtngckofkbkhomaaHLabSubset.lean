import Derived.Test.YtngckofkbkhomaaProg
import Derived.WalkKit
import Derived.WalkMore
import Derived.Outline
import Derived.Deep.LoopGhost
import Derived.Deep.QuietTactic
import Derived.BigQuiet
import Derived.Test.YtngckofkbkhomaaWWords
import Derived.Test.YtngckofkbkhomaaWLast
import Derived.Test.YtngckofkbkhomaaWMore
namespace Go.Proofs.Ytngckofkbkhomaa
open Go.RowKit Go.Proofs.YtngckofkbkhomaaW.PrintWords Go.Proofs.YtngckofkbkhomaaW.PrintLast Go.Proofs.YtngckofkbkhomaaW.PrintMore
set_option linter.unusedVariables false
theorem ret_b {a b : Bool} (h : a = b) : Ending.returned (.bool a) = .returned (.bool b) := by rw [h]
/-- the pure function: is every element of a in b, in order? -/
def subGo : List Int → List Int → Bool
  | [], _ => true
  | _ :: _, [] => false
  | x :: a, y :: b => if y = x then subGo a b else subGo (x :: a) b
termination_by a b => a.length + b.length
theorem rd_cons (l : List Int) (k : Int) (h0 : 0 ≤ k) (h : k < l.length) : l.drop k.toNat = rd l k :: l.drop (k.toNat + 1) := by
  rw [List.drop_eq_getElem_cons (by omega)]
  simp [rd, List.getD_eq_getElem?_getD, List.getElem?_eq_getElem (show k.toNat < l.length by omega)]
theorem sub_done (la lb : List Int) (k m : Int) (h : 0 ≤ k ∧ k ≤ la.length) (hk : ¬ k < la.length) (e : subGo (la.drop k.toNat) (lb.drop m.toNat) = subGo la lb) : subGo la lb = true := by
  rw [← e, show la.drop k.toNat = [] from List.drop_eq_nil_of_le (by omega)]; simp [subGo]
theorem sub_out (la lb : List Int) (k m : Int) (h : 0 ≤ k) (hk : k < la.length) (h0 : 0 ≤ m) (hm : ¬ m < lb.length) (e : subGo (la.drop k.toNat) (lb.drop m.toNat) = subGo la lb) : subGo la lb = false := by
  rw [← e, rd_cons la k h hk, show lb.drop m.toNat = [] from List.drop_eq_nil_of_le (by omega)]; simp [subGo]
theorem sub_hit (la lb : List Int) (k m : Int) (h : 0 ≤ k) (hk : k < la.length) (h0 : 0 ≤ m) (hm : m < lb.length) (hx : rd lb m = rd la k) (e : subGo (la.drop k.toNat) (lb.drop m.toNat) = subGo la lb) : subGo (la.drop (k + 1).toNat) (lb.drop (m + 1).toNat) = subGo la lb := by
  rw [← e, rd_cons la k h hk, rd_cons lb m h0 hm, subGo, if_pos hx, show (k + 1).toNat = k.toNat + 1 by omega, show (m + 1).toNat = m.toNat + 1 by omega]
theorem sub_miss (la lb : List Int) (k m : Int) (h : 0 ≤ k) (hk : k < la.length) (h0 : 0 ≤ m) (hm : m < lb.length) (hx : ¬ rd lb m = rd la k) (e : subGo (la.drop k.toNat) (lb.drop m.toNat) = subGo la lb) : subGo (la.drop k.toNat) (lb.drop (m + 1).toNat) = subGo la lb := by
  rw [← e, rd_cons la k h hk, rd_cons lb m h0 hm, subGo, if_neg hx, show (m + 1).toNat = m.toNat + 1 by omega]

set_option maxHeartbeats 8000000 in
set_option maxRecDepth 100000 in
theorem subset_calls (A B : Option Addr) (ca cb : Nat) (la lb : List Int) (w : World) (hra : Kd.C (Kd.int .i64) w A la.length la) (hrb : Kd.C (Kd.int .i64) w B lb.length lb) :
    Calls Try.prog 31 #[.slice A la.length ca, .slice B lb.length cb] w fun e w' => e = .returned (.bool (subGo la lb)) ∧ w = w' := by
  have HRA := Aside0.mk hra
  have HRB := Aside0.mk hrb
  clear hra hrb
  go_enter Try.func31, Try.ntmps31
  go_wp2
  go_step3
  go_wp2
  go_step3
  go_wp2
  go_loopg [5, 7, 10] (la.length + 1) (fun gk at_ x i w' => ∃ (k m : Int), at_ = .int .i64 m ∧ i = .int .i64 k ∧ Aside0 (0 ≤ k ∧ k ≤ la.length ∧ 0 ≤ m ∧ m ≤ lb.length ∧ (gk : Int) = la.length - k + 1 ∧ subGo (la.drop k.toNat) (lb.drop m.toNat) = subGo la lb) ∧ w = w')
  case atStart => exact ⟨0, 0, rfl, rfl, ⟨by simp⟩, rfl⟩
  case round =>
    obtain ⟨k, m, rfl, rfl, HI, rfl⟩ := hrel
    by_cases hk : k < la.length
    · have p1 : 0 ≤ k := HI.out.1
      obtain ⟨ad, e1, hx⟩ := Kd.at_int HRA.out k p1 hk
      cases e1
      replace p1 := eq_true p1
      replace hk := eq_true hk
      go_wp2
      go_loopg [5] (lb.length - m.toNat + 1) (fun gk2 at_ w' => ∃ (m : Int), at_ = .int .i64 m ∧ Aside0 (0 ≤ k ∧ k < la.length ∧ 0 ≤ m ∧ m ≤ lb.length ∧ (gk : Int) = la.length - k + 1 ∧ (gk2 : Int) = lb.length - m + 1 ∧ subGo (la.drop k.toNat) (lb.drop m.toNat) = subGo la lb) ∧ w = w')
      case atStart => exact ⟨m, rfl, ⟨by have := HI.out; have := of_eq_true hk; refine ⟨by omega, by omega, by omega, by omega, by omega, by omega, HI.out.2.2.2.2.2⟩⟩, rfl⟩
      case round =>
        clear HI
        obtain ⟨m, rfl, HI, rfl⟩ := hrel
        by_cases hm : m < lb.length
        · have p2 : 0 ≤ m := HI.out.2.2.1
          obtain ⟨ad2, e1, hx2⟩ := Kd.at_int HRB.out m p2 hm
          cases e1
          have hl := HRB.out.2.1
          have hw : wrap64 (m + 1) = m + 1 := by unfold wrap64; omega
          have hw2 : wrap64 m = m := by unfold wrap64; omega
          replace p2 := eq_true p2
          replace hm := eq_true hm
          by_cases he : rd lb m = rd la k
          · have he1 : (rd lb m == rd la k) = true := beq_iff_eq.mpr he
            have hn := sub_hit la lb k m HI.out.1 HI.out.2.1 HI.out.2.2.1 (of_eq_true hm) he HI.out.2.2.2.2.2.2
            have hk2 : wrap64 (k + 1) = k + 1 := by have := HRA.out.2.1; have := HI.out; unfold wrap64; omega
            have HN := Aside0.mk hn
            clear he hn
            go_wp2
            go_roundg (la.length - (k + 1).toNat + 1)
            case rel => exact ⟨k + 1, m + 1, by rw [hw], by rw [hk2], ⟨by have := HI.out; have := of_eq_true hm; refine ⟨by omega, by omega, by omega, by omega, by omega, HN.out⟩⟩, rfl⟩
            case measure => have := HI.out; omega
          · have he1 : (rd lb m == rd la k) = false := beq_eq_false_iff_ne.mpr he
            have HN := Aside0.mk (sub_miss la lb k m HI.out.1 HI.out.2.1 HI.out.2.2.1 (of_eq_true hm) he HI.out.2.2.2.2.2.2)
            clear he
            go_wp2
            go_roundg (lb.length - (m + 1).toNat + 1)
            case rel => exact ⟨m + 1, by rw [hw], ⟨by have := HI.out; have := of_eq_true hm; refine ⟨by omega, by omega, by omega, by omega, by omega, by omega, HN.out⟩⟩, rfl⟩
            case measure => have := HI.out; have := of_eq_true hm; omega
        · go_wp2
          go_ret
          exact ⟨ret_b (sub_out la lb k m HI.out.1 HI.out.2.1 HI.out.2.2.1 (by omega) HI.out.2.2.2.2.2.2).symm, rfl⟩
    · go_wp2
      go_ret
      exact ⟨ret_b (sub_done la lb k m ⟨HI.out.1, HI.out.2.1⟩ (by omega) HI.out.2.2.2.2.2).symm, rfl⟩
end Go.Proofs.Ytngckofkbkhomaa
