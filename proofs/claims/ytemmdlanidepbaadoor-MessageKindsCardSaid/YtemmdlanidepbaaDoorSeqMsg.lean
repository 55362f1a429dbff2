/- Whole messages in regions that draw their order. -/
import Derived.Test.YtemmdlanidepbaaDoorReadC
import Derived.Test.YtemmdlanidepbaaDoorWhole
import Derived.Test.YtemmdlanidepbaaDoorSeq
namespace Go.Proofs.YtemmdlanidepbaaDoor
open Go.RowKit
set_option linter.unusedSimpArgs false
set_option maxRecDepth 100000

section
variable {ops : Array Oper} {Q : Exit → Act → World → Prop} {T : Nat → Prop} {Bk : List Nat}
theorem Up.blk {w : World} {g : Nat} {o : Obj} (h : w.heap[g]? = some o) (hT : ¬ T g) : Up T w (fun u => u.heap[g]? = some o) := fun _ hu => (hu.block g (Array.getElem?_eq_some_iff.1 h).1 hT).trans h
/-- a message is loaded whole, now or later -/
theorem seq_load_msg {i : Nat} {o : Oper} {a : Act} {w : World} {rest : List (Nat × Bool)} (d : Option Nat) (ho : ops[i]? = some o) (hd : o.dst = d) (hw : Region.wanted o (yielded ops a.tmps) = true) (x : Operand) (hop : o.op = .load 27 x)
    (g : Nat) (cs : Array Value) (hx : a.eval x = .pointer (some ⟨g, 0, none⟩)) (hs : cs.size = 103) (hg : Up T w (fun u => u.heap[g]? = some (.cells cs 27 (0, 0))))
    (h : wpSeq Tryd.prog ops Q T Bk rest (a.put d (.agg cs)) w) : wpSeq Tryd.prog ops Q T Bk ((i, true) :: rest) a w :=
  seq_at d ho hd hw (fun u hu => by
    have := run_loadVar_row (P := Tryd.prog) u g 27 27 cs (0, 0) _ (hg u hu) Tryd.underlying27 rfl (infoMsg.trans (congrArg some hs.symm))
    unfold execOp
    simp only [hop, hx, Instr.loadAt, Instr.sureAddr, Sem.run_bind, Sem.run_pure, Result.andThen_ok, this]) h
end
section
variable {ops : Array Oper} {rest : List Oper} {o : Oper} {a : Act} {w : World} {Q : Exit → Act → World → Prop}
/-- a message is stored whole into a new block -/
theorem store_new {cs : Array Value} (hs : cs.size = 103) (hall : cs.all (·.oneCell') = true) (hgd : o.guard = none) (x y : Operand) (ho : o.op = .store 27 x y) (hx : a.eval x = .pointer (some ⟨w.heap.size, 0, none⟩)) (hy : a.eval y = .agg cs)
    (h : wpList Tryd.prog ops Q rest (a.put o.dst undef) (w.alloc (.cells cs 27))) : wpList Tryd.prog ops Q (o :: rest) a (w.alloc (.cells Tryd.zeroCells27 27)) := by
  refine wpList_store_row hgd 27 x y ho w.heap.size cs hx hy 27 _ (heap_alloc_new w _) (infoMsg.trans (congrArg some hs.symm)) (zero_size.trans hs.symm) hall ?_
  rw [World.setRow_alloc_new]
  exact h
/-- a message is loaded whole -/
theorem load_msg {cs : Array Value} (hs : cs.size = 103) (hgd : o.guard = none) (x : Operand) (ho : o.op = .load 27 x) (g : Nat) (hx : a.eval x = .pointer (some ⟨g, 0, none⟩)) (hg : w.heap[g]? = some (.cells cs 27 (0, 0)))
    (h : wpList Tryd.prog ops Q rest (a.put o.dst (.agg cs)) w) : wpList Tryd.prog ops Q (o :: rest) a w :=
  wpList_load_row hgd 27 x ho g hx 27 cs (0, 0) _ hg Tryd.underlying27 rfl (infoMsg.trans (congrArg some hs.symm)) h
end
end Go.Proofs.YtemmdlanidepbaaDoor
