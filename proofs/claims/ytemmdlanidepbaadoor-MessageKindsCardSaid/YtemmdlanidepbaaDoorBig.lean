/- Steps over a message's body: 96 cells that are not opened. -/
import Derived.Test.YtemmdlanidepbaaDoorMsg
import Derived.Laws.Rows
import Derived.Laws.Tables
namespace Go.Proofs.YtemmdlanidepbaaDoor
open Go.RowKit
set_option linter.unusedSimpArgs false
set_option maxRecDepth 100000

theorem wp_load_cells {P : Program} {o : Oper} {a : Act} {w : World} {K : Act → World → Prop} {Q : Exit → Act → World → Prop} (ty : TypeId) (x : Operand) (ho : o.op = .load ty x) (p : Addr) (hx : a.eval x = .pointer (some p)) (cs : Array Value)
    (hrun : (loadVar ty p).run P w = .ok (.agg cs) w) (h : K (a.put o.dst (.agg cs)) w) : o.wp P a w K Q := by
  unfold Oper.wp execOp
  simp only [ho, hx, Instr.loadAt, Instr.sureAddr, Sem.run_bind, Sem.run_pure, Result.andThen_ok, hrun]
  exact h
theorem wpList_load_cells {P : Program} {ops : Array Oper} {rest : List Oper} {o : Oper} {a : Act} {w : World} {Q : Exit → Act → World → Prop} (hgd : o.guard = none) (ty : TypeId) (x : Operand) (ho : o.op = .load ty x) (p : Addr) (hx : a.eval x = .pointer (some p)) (cs : Array Value)
    (hrun : (loadVar ty p).run P w = .ok (.agg cs) w) (h : wpList P ops Q rest (a.put o.dst (.agg cs)) w) : wpList P ops Q (o :: rest) a w :=
  wpList_plain hgd fun _ hK => wp_load_cells ty x ho p hx cs hrun (hK _ _ h)
theorem infoBody : (Tryd.prog.info? 25).map (·.size) = some 96 := by kernel_rfl
/-- the body's cells, loaded -/
theorem body_load {w : World} {p : Addr} {l : List UInt8} (hl : l.length = 96) (h : At w (some p) (bv l)) : (loadVar 25 p).run Tryd.prog w = .ok (.agg (bodyV l)) w := by
  have hc : (loadCells p (bv l).length).run Tryd.prog w = .ok (bv l).toArray w := run_loadCells_list (P := Tryd.prog) w p (bv l) (fun j v hv => by
    obtain ⟨ad, e, hc⟩ := h j v hv
    injection e with e
    subst e
    exact hc)
  rw [bv_len, hl] at hc
  cases hq : Tryd.prog.info? 25 with
  | none => have := infoBody; rw [hq] at this; cases this
  | some i =>
    have hs : i.size = 96 := by have := infoBody; rw [hq] at this; simpa using this
    have hagg : (isAgg 25).run Tryd.prog w = .ok true w := by
      unfold isAgg
      rw [Sem.run_bind, run_underlying Tryd.underlying25 w]
      rfl
    simp [loadVar, Sem.run_bind, hagg, sizeOf, typeInfo, hq, hs, hc, bodyV]
theorem built_none : (Tryd.prog.built 25 []).isSome = true := by kernel_rfl
theorem built_zero : (Tryd.prog.built 25 []).getD #[] = noBody := by kernel_rfl
theorem wp_build_none {o : Oper} {a : Act} {w : World} {K : Act → World → Prop} {Q : Exit → Act → World → Prop} (ho : o.op = .build 25 #[]) (h : K (a.put o.dst (.agg noBody)) w) : o.wp Tryd.prog a w K Q := by
  have e : ∀ f : Nat × Operand → Nat × Value, (Array.map f #[]).toList = [] := fun f => by simp
  refine wp_build 25 #[] ho ?_ ?_
  · rw [e]
    exact built_none
  · rw [e, built_zero]
    exact h
end Go.Proofs.YtemmdlanidepbaaDoor
