/- St, more. -/
import Derived.Test.YtngckofkbkhomaaHLabSane
namespace Go.Proofs.Ytngckofkbkhomaa
open Go.RowKit Go.Proofs.YtngckofkbkhomaaW.PrintWords
theorem St.tail {w W : World} {L : List (Option Addr × List Int)} {p : Nat × Array Value × TypeId} {M : List (Nat × Array Value × TypeId)} (h : St w L (p :: M) W) : St w L M W :=
  ⟨h.rows, fun q hq => h.boxes q (List.mem_cons_of_mem _ hq), h.bel⟩
theorem St.tailRow {w W : World} {L : List (Option Addr × List Int)} {p : Option Addr × List Int} {M : List (Nat × Array Value × TypeId)} (h : St w (p :: L) M W) : St w L M W :=
  ⟨fun q hq => h.rows q (List.mem_cons_of_mem _ hq), h.boxes, h.bel⟩
end Go.Proofs.Ytngckofkbkhomaa
