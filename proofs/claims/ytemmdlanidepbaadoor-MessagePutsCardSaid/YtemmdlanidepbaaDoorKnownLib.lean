/- A literal of bytes. -/
import Derived.Test.YtemmdlanidepbaaDoorRdBytes
namespace Go.Proofs.YtemmdlanidepbaaDoor
open Go.RowKit
theorem at_lit (w : World) (l : List UInt8) (cs : Array Value) (h : cs.toList = bv l) : At (w.alloc (.cells cs 5)) (some ⟨w.heap.size, 0, none⟩) (bv l) := fun j u hj => by
  refine ⟨_, rfl, ?_⟩
  rw [add0, World.cell?_alloc_new, ← Array.getElem?_toList, h]
  exact hj
end Go.Proofs.YtemmdlanidepbaaDoor
