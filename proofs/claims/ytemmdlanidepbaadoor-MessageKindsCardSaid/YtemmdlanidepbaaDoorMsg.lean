/- A message as a value. -/
import Derived.Test.YtemmdlanidepbaaDoorHas
import Derived.ChangeKeysEq
namespace Go.Proofs.YtemmdlanidepbaaDoor
open Go.RowKit
set_option linter.unusedSimpArgs false
set_option maxRecDepth 100000

/-- a message -/
structure Msg where
  kind : Int
  page : Int
  op : Int
  mode : Int
  dest : Int
  psn : Int
  dirty : Bool
  body : List UInt8
/-- its cells -/
def mcells (m : Msg) : Array Value := (([.int .i64 m.kind, .int .i64 m.page, .int .i64 m.op, .int .i64 m.mode, .int .i64 m.dest, .int .i64 m.psn, .bool m.dirty] : List Value) ++ bv m.body).toArray
structure Msg.Ok (m : Msg) : Prop where
  kind : I64 m.kind
  page : I64 m.page
  op : I64 m.op
  mode : I64 m.mode
  dest : I64 m.dest
  psn : I64 m.psn
  body : m.body.length = 96
theorem mcells_size {m : Msg} (h : m.Ok) : (mcells m).size = 103 := by simp [mcells, bv_len, h.body]
theorem mcells_get (m : Msg) : (mcells m)[0]? = some (.int .i64 m.kind) ∧ (mcells m)[1]? = some (.int .i64 m.page) ∧ (mcells m)[2]? = some (.int .i64 m.op) ∧ (mcells m)[3]? = some (.int .i64 m.mode) ∧ (mcells m)[4]? = some (.int .i64 m.dest) ∧
    (mcells m)[5]? = some (.int .i64 m.psn) ∧ (mcells m)[6]? = some (.bool m.dirty) := by simp [mcells]
theorem mcells_body (m : Msg) (j : Nat) : (mcells m)[7 + j]? = (bv m.body)[j]? := by
  simp only [mcells, List.getElem?_toArray]
  rw [List.getElem?_append_right (by simp)]
  congr 1
  simp

/-- a body's noughts -/
def noBody : Array Value := (bv (List.replicate 96 0)).toArray
def bodyV (l : List UInt8) : Array Value := (bv l).toArray
theorem noBody_eq : noBody = bodyV (List.replicate 96 0) := rfl

/-- is there nothing in it? -/
def bodyZ (l : List UInt8) : Bool := decide (l = List.replicate 96 0)
theorem bv_get (l : List UInt8) (i : Nat) (hi : i < l.length) : (bodyV l)[i]? = some (.int .u8 ((l[i]).toNat : Int)) := by simp [bodyV, bv, List.getElem?_eq_getElem hi]
theorem eqItems_bytes (w : World) (d : Nat) (l m : List UInt8) (hl : l.length = m.length) : ∀ (n i : Nat), i + n = l.length → (Op.eqItems (d + 1) 5 1 (bodyV l) (bodyV m) (List.range' i n)).run Tryd.prog w = .ok (decide (l.drop i = m.drop i)) w := by
  intro n
  induction n with
  | zero =>
    intro i hi
    rw [List.drop_eq_nil_of_le (by omega), List.drop_eq_nil_of_le (by omega)]
    simp [Op.eqItems]
  | succ n ih =>
    intro i hi
    have h1 : i < l.length := by omega
    have h2 : i < m.length := by omega
    rw [List.range'_succ]
    have p0 : (part 5 (bodyV l) (i * 1)).run Tryd.prog w = .ok (.int .u8 ((l[i]).toNat : Int)) w := run_part_plain w (by kernel_rfl) (by rw [Nat.mul_one]; exact bv_get l i h1)
    have p1 : (part 5 (bodyV m) (i * 1)).run Tryd.prog w = .ok (.int .u8 ((m[i]).toNat : Int)) w := run_part_plain w (by kernel_rfl) (by rw [Nat.mul_one]; exact bv_get m i h2)
    simp only [Op.eqItems, Sem.run_bind, p0, p1, Result.andThen_ok, run_equalIn_int w d 5 .u8 .u8 _ _ Tryd.underlying5]
    rw [List.drop_eq_getElem_cons h1, List.drop_eq_getElem_cons h2]
    by_cases he : l[i] = m[i]
    · have : (((l[i]).toNat : Int) == ((m[i]).toNat : Int)) = true := by simp [he]
      rw [this]
      simp only [Bool.not_true, Bool.false_eq_true, if_false]
      rw [ih (i + 1) (by omega)]
      simp only [List.cons.injEq, he, true_and]
    · have hne : ¬ ((l[i]).toNat : Int) = ((m[i]).toNat : Int) := fun h => he (UInt8.toNat_inj.1 (by omega))
      have : (((l[i]).toNat : Int) == ((m[i]).toNat : Int)) = false := by simpa using hne
      rw [this]
      simp only [List.cons.injEq, he, false_and, decide_false, Bool.not_false, if_true, Sem.run_pure]
theorem body_eq (w : World) (l m : List UInt8) (hl : l.length = 96) (hm : m.length = 96) : (Op.equalIn 10000 25 (.agg (bodyV l)) (.agg (bodyV m))).run Tryd.prog w = .ok (decide (l = m)) w := by
  obtain ⟨i, hi⟩ : ∃ i, Tryd.prog.info? 5 = some i := ⟨_, rfl⟩
  rw [run_equalIn_array w 9999 _ _ Tryd.underlying25 hi]
  rw [show Tryd.prog.cellsOf 5 = 1 by kernel_rfl, List.range_eq_range']
  have := eqItems_bytes w 9998 l m (by omega) 96 0 (by omega)
  simpa using this
end Go.Proofs.YtemmdlanidepbaaDoor
