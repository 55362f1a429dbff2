/- A message in a block. -/
import Derived.Test.YtemmdlanidepbaaDoorBig
namespace Go.Proofs.YtemmdlanidepbaaDoor
open Go.RowKit
set_option linter.unusedSimpArgs false
set_option maxRecDepth 100000

def may1 (l0 : Bool) (page : Int) : Bool := l0 || decide (page < 0) || decide (16 ≤ page)
def may2 (b2 b3 : Bool) (op mode : Int) : Bool := (b2 != decide (0 < op)) || decide (op < 0) || decide (4611686018427387904 < op) || (b3 != (mode == 1 || mode == 2)) || (!b3 && mode != 0)
def may3 (b4 b6 b7 z : Bool) (dest : Int) (dirty : Bool) : Bool := (!b4 && dest != 0) || decide (dest < 0) || decide (8 ≤ dest) || (!b6 && dirty) || (!b7 && !z)
def may4 (b5 b7 z : Bool) (psn : Int) : Bool := if b5 then decide ((if b7 then (0 : Int) else 1) ≤ psn) && decide (psn ≤ 2147483647) && (decide (0 < psn) || z) else psn == 0
/-- does the kind name the field? -/
def hasB (k f : Int) : Bool := decide (f ∈ fieldsOf k)
/-- may the message be? -/
def mayM (m : Msg) : Bool := !may1 (decide ((fieldsOf m.kind).length = 0)) m.page && !may2 (hasB m.kind 2) (hasB m.kind 3) m.op m.mode && !may3 (hasB m.kind 4) (hasB m.kind 6) (hasB m.kind 7) (bodyZ m.body) m.dest m.dirty && may4 (hasB m.kind 5) (hasB m.kind 7) (bodyZ m.body) m.psn

theorem fieldsOf_out {k : Int} (h : ¬ (1 ≤ k ∧ k ≤ 13)) : fieldsOf k = [] := by unfold fieldsOf; repeat (rw [if_neg (by omega)])
theorem kind_cases {k : Int} (h : 1 ≤ k ∧ k ≤ 13) : k = 1 ∨ k = 2 ∨ k = 3 ∨ k = 4 ∨ k = 5 ∨ k = 6 ∨ k = 7 ∨ k = 8 ∨ k = 9 ∨ k = 10 ∨ k = 11 ∨ k = 12 ∨ k = 13 := by omega
theorem fieldsOf_len (k : Int) : (fieldsOf k).length ≤ 6 := by
  by_cases h : 1 ≤ k ∧ k ≤ 13
  · rcases kind_cases h with rfl | rfl | rfl | rfl | rfl | rfl | rfl | rfl | rfl | rfl | rfl | rfl | rfl
    all_goals decide
  · rw [fieldsOf_out h]; simp

/-- a message in a block -/
structure MCells (w : World) (g : Nat) (m : Msg) : Prop where
  c0 : w.cell? ⟨g, 0, none⟩ = some (.int .i64 m.kind)
  c1 : w.cell? ⟨g, 1, none⟩ = some (.int .i64 m.page)
  c2 : w.cell? ⟨g, 2, none⟩ = some (.int .i64 m.op)
  c3 : w.cell? ⟨g, 3, none⟩ = some (.int .i64 m.mode)
  c4 : w.cell? ⟨g, 4, none⟩ = some (.int .i64 m.dest)
  c5 : w.cell? ⟨g, 5, none⟩ = some (.int .i64 m.psn)
  c6 : w.cell? ⟨g, 6, none⟩ = some (.bool m.dirty)
  body : ∀ j, w.cell? ⟨g, 7 + j, none⟩ = (bv m.body)[j]?
theorem MCells.lt {w : World} {g : Nat} {m : Msg} (h : MCells w g m) : g < w.heap.size := World.block_lt_of_cell? w _ h.c0
theorem MCells.box (w : World) (m : Msg) : MCells (w.alloc (.cells (mcells m) 27)) w.heap.size m := by
  obtain ⟨G0, G1, G2, G3, G4, G5, G6⟩ := mcells_get m
  exact ⟨by simp [G0], by simp [G1], by simp [G2], by simp [G3], by simp [G4], by simp [G5], by simp [G6], fun j => by simp [mcells_body]⟩
theorem MCells.below {w w1 : World} {g : Nat} {m : Msg} (h : MCells w g m) (hb : Below w.heap.size w w1) : MCells w1 g m :=
  have k : ∀ i, w1.cell? ⟨g, i, none⟩ = w.cell? ⟨g, i, none⟩ := fun _ => hb.cell h.lt
  ⟨(k 0).trans h.c0, (k 1).trans h.c1, (k 2).trans h.c2, (k 3).trans h.c3, (k 4).trans h.c4, (k 5).trans h.c5, (k 6).trans h.c6, fun j => (k _).trans (h.body j)⟩
theorem MCells.bodyAt {w : World} {g : Nat} {m : Msg} (h : MCells w g m) : At w (some ⟨g, 7, none⟩) (bv m.body) := fun j u hj => ⟨_, rfl, by
  have e : (⟨g, 7, none⟩ : Addr).add j = ⟨g, 7 + j, none⟩ := by unfold Addr.add; split <;> simp_all
  rw [e, h.body]
  exact hj⟩
end Go.Proofs.YtemmdlanidepbaaDoor
