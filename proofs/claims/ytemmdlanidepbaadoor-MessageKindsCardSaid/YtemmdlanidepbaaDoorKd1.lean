/- The law's two lists of fields compared; the list of names; the contract of message.Kinds and of its iterator. -/
import Derived.Test.YtemmdlanidepbaaDoorRefField
import Derived.RangeFuncNested
import Derived.RangeFuncBound
import Derived.RangeFuncCalls
import Derived.RangeFuncLeaves
import Derived.Shelf.Abstract
import Derived.Shelf.RegionOpen
import Derived.WalkKit
import Derived.OwnWalkIn
import Derived.TacticsInMore
import Derived.LoopNIn
import Derived.LoopIn
namespace Go.Proofs.YtemmdlanidepbaaDoor
open Go.RowKit Go.Shelf
set_option linter.unusedSimpArgs false
set_option maxRecDepth 100000
attribute [local go_sem] Oper.semAt_some

section
variable {F : Fence} {n : Nat} {P : Program} {ops : Array Oper} {rest : List Oper} {o : Oper} {a : Act} {w : World} {Q : Exit → Act → World → Prop}
/-- an operation that yields a value, in a fence -/
theorem listIn_val (hgd : o.guard = none) (hF : ∀ f, F.fn f) (hd : ∀ c, o.op ≠ .defer c) (v : Value) (w' : World) (hr : (execOp a.eval o).run P w = .ok (.value v) w')
    (h : wpListIn F n P ops Q rest (a.put o.dst v) w') : wpListIn F n P ops Q (o :: rest) a w := by
  refine wpListIn_plain hgd fun K hK' => ?_
  unfold Oper.wpIn
  refine ⟨fun f _ => hF f, ?_⟩
  rw [Oper.semAt_plain F _ _ (fun c hc => hd c hc), hr]
  exact hK' _ _ h
theorem listIn_skip (hgd : o.guard = none) (hF : ∀ f, F.fn f) (hd : ∀ c, o.op ≠ .defer c) (w' : World) (hr : (execOp a.eval o).run P w = .ok .skip w')
    (h : wpListIn F n P ops Q rest (a.put o.dst undef) w') : wpListIn F n P ops Q (o :: rest) a w := by
  refine wpListIn_plain hgd fun K hK' => ?_
  unfold Oper.wpIn
  refine ⟨fun f _ => hF f, ?_⟩
  rw [Oper.semAt_plain F _ _ (fun c hc => hd c hc), hr]
  exact hK' _ _ h
theorem listIn_store_row (hgd : o.guard = none) (hF : ∀ f, F.fn f) (ty : TypeId) (x y : Operand) (ho : o.op = .store ty x y)
    (g : Nat) (cells : Array Value) (hx : a.eval x = .pointer (some ⟨g, 0, none⟩)) (hy : a.eval y = .agg cells)
    (t : TypeId) (old : Array Value) (hg : w.heap[g]? = some (.cells old t (0, 0))) (hi : (P.info? ty).map (·.size) = some cells.size)
    (hold : old.size = cells.size) (h1 : cells.all (·.oneCell') = true)
    (h : wpListIn F n P ops Q rest (a.put o.dst undef) (w.setRow g cells)) : wpListIn F n P ops Q (o :: rest) a w :=
  listIn_skip hgd hF (by rw [ho]; intro c hc; cases hc) _ (by
    unfold execOp
    simp only [ho, hx, hy, Instr.storeAt, Instr.sureAddr, Sem.run_bind, Sem.run_pure, Result.andThen_ok, run_storeVar_row w g t ty old cells hg hi hold h1]) h
end

theorem kinds18_any (w : World) : Calls Tryd.prog 23 #[] w (fun e w' => e = .returned (.func (.func 63) #[] #[]) ∧ w = w') := by
  go_enter Tryd.func23, Tryd.ntmps23
  go_wp2
  go_ret
  exact ⟨rfl, rfl⟩

theorem fields18_eq (A B : Option Addr) (c d : Nat) (l : List Int) (w : World) (hA : At w A (iv l)) (hB : At w B (iv l)) (hl : l.length ≤ 1000) :
    Calls Tryd.prog 19 #[.slice A l.length c, .slice B l.length d] w (fun e w' => e = .returned (.bool true) ∧ Below w.heap.size w w') := by
  go_enter Tryd.func19, Tryd.ntmps19
  go_wp2
  go_loopg [5] l.length (fun kk i wr => ∃ j n : Nat, i = .int .i64 (j : Int) ∧ Hid (j + kk = l.length) ∧ wr = w.drewN n)
  case atStart => exact ⟨0, 0, rfl, Lib.hid (Nat.zero_add _), rfl⟩
  case round =>
    obtain ⟨j, nq, rfl, hj, rfl⟩ := hrel
    by_cases hlt : j < l.length
    · obtain ⟨x, hx⟩ : ∃ x, l[j] = x := ⟨_, rfl⟩
      obtain ⟨ad, rfl, hcell⟩ := hA j (.int .i64 x) (by simp [iv, List.getElem?_eq_getElem hlt, hx])
      obtain ⟨bd, rfl, hcellb⟩ := hB j (.int .i64 x) (by simp [iv, List.getElem?_eq_getElem hlt, hx])
      clear hx
      go_wp2_with fail
      go_quiet (fail)
      go_wp2_with fail
      go_roundg (gk - 1)
      case measure => have := hj.out; omega
      case rel => exact ⟨j + 1, _, (by go_num), Lib.hid (by have := hj.out; omega), rfl⟩
    · go_wp2
      go_ret
      exact ⟨rfl, Bl.drewN (Below.refl _ _) _⟩
end Go.Proofs.YtemmdlanidepbaaDoor
