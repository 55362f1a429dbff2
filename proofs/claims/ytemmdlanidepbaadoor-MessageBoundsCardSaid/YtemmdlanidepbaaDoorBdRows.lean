/- Messages in a row, in one block; the rows of the bounds' law: closed facts. -/
import Derived.Test.YtemmdlanidepbaaDoorKnown18
import Derived.Test.YtemmdlanidepbaaDoorDgLaw
import Derived.Deep.MidRow
import Derived.Great.Walk
namespace Go.Proofs.YtemmdlanidepbaaDoor
open Go.RowKit
set_option linter.unusedSimpArgs false
set_option maxRecDepth 100000

def rowsL (L : List Msg) : List Value := (L.map fun m => (mcells m).toList).flatten
def AllOk (L : List Msg) : Prop := ∀ m ∈ L, m.Ok
theorem mlist_len {m : Msg} (h : m.Ok) : (mcells m).toList.length = 103 := by simpa using mcells_size h
theorem rowsL_app (A B : List Msg) : rowsL (A ++ B) = rowsL A ++ rowsL B := by simp [rowsL]
theorem rowsL_cons (m : Msg) (B : List Msg) : rowsL (m :: B) = (mcells m).toList ++ rowsL B := by simp [rowsL]
theorem rowsL_len {L : List Msg} (h : AllOk L) : (rowsL L).length = L.length * 103 := by
  induction L with
  | nil => rfl
  | cons m L ih =>
    rw [rowsL_cons, List.length_append, mlist_len (h m (by simp)), ih (fun x hx => h x (by simp [hx])), List.length_cons]
    omega
theorem split_at {L : List Msg} {i : Nat} {m : Msg} (h : L[i]? = some m) : L = L.take i ++ m :: L.drop (i + 1) := by
  have hi := (List.getElem?_eq_some_iff.1 h)
  obtain ⟨hi, e⟩ := hi
  rw [← e]
  simp
theorem ok_take {L : List Msg} (h : AllOk L) (i : Nat) : AllOk (L.take i) := fun m hm => h m (List.mem_of_mem_take hm)
theorem rows_get {L : List Msg} (h : AllOk L) {i : Nat} {m : Msg} (hi : L[i]? = some m) (j : Nat) (v : Value) (hj : (mcells m).toList[j]? = some v) : (rowsL L)[i * 103 + j]? = some v := by
  have hl : (rowsL (L.take i)).length = i * 103 := by
    rw [rowsL_len (ok_take h i), List.length_take, Nat.min_eq_left (Nat.le_of_lt (List.getElem?_eq_some_iff.1 hi).1)]
  have hjl : j < (mcells m).toList.length := (List.getElem?_eq_some_iff.1 hj).1
  rw [split_at hi, rowsL_app, rowsL_cons, List.getElem?_append_right (by omega), hl, Nat.add_sub_cancel_left, List.getElem?_append_left hjl]
  exact hj
theorem rows_set {L : List Msg} (h : AllOk L) {i : Nat} {m m' : Msg} (hi : L[i]? = some m) (ho : m'.Ok) :
    (rowsL L).take (i * 103) ++ (mcells m').toList ++ (rowsL L).drop (i * 103 + (mcells m').toList.length) = rowsL (L.set i m') := by
  have hlt := (List.getElem?_eq_some_iff.1 hi).1
  have hl : (rowsL (L.take i)).length = i * 103 := by
    rw [rowsL_len (ok_take h i), List.length_take, Nat.min_eq_left (Nat.le_of_lt hlt)]
  have hm : m.Ok := h m (List.mem_of_getElem? hi)
  have e := split_at hi
  have e2 : L.set i m' = L.take i ++ m' :: L.drop (i + 1) := by
    rw [List.set_eq_take_append_cons_drop, if_pos hlt]
  rw [e2, rowsL_app, rowsL_cons, mlist_len ho]
  conv => lhs; rw [e]
  rw [rowsL_app, rowsL_cons, List.take_left' hl, List.append_assoc]
  congr 2
  rw [← List.append_assoc, List.drop_left' (by rw [List.length_append, hl, mlist_len hm])]
/-- a row of messages in a block -/
structure RBlk (w : World) (b : Nat) (t : TypeId) (L : List Msg) : Prop where
  blk : w.heap[b]? = some (.cells (rowsL L).toArray t (0, 0))
theorem RBlk.range {w : World} {b : Nat} {t : TypeId} {L : List Msg} (h : RBlk w b t L) (ho : AllOk L) {i : Nat} {m : Msg} (hi : L[i]? = some m) : w.rangeAt b (i * 103) (mcells m).toList := fun j v hj => by
  rw [cell_of_row w b _ _ _ (0, 0) h.blk, List.getElem?_toArray]
  exact rows_get ho hi j v hj
theorem run_storeVar_rows {w : World} {b : Nat} {t : TypeId} {L : List Msg} (h : RBlk w b t L) (ho : AllOk L) {i : Nat} {m m' : Msg} (hi : L[i]? = some m) (hm : m'.Ok) :
    (storeVar 27 ⟨b, i * 103, none⟩ (.agg (mcells m'))).run Tryd.prog w = .ok () (w.setRow b (rowsL (L.set i m')).toArray) := by
  have hlt := (List.getElem?_eq_some_iff.1 hi).1
  have hst := run_storeCells_at Tryd.prog b (i * 103) t (mcells m').toList 0 (rowsL L).toArray w h.blk (by
    rw [mlist_len hm]
    simp only [List.size_toArray, rowsL_len ho]
    omega) (fun v hv => by
    have := mcells_all m'
    rw [Array.all_eq_true_iff_forall_mem] at this
    exact this v (by simpa using hv))
  rw [Nat.add_zero, rows_set ho hi hm] at hst
  cases hq : Tryd.prog.info? 27 with
  | none => have := infoMsg; rw [hq] at this; cases this
  | some j =>
    have h9 : j.size = 103 := by have := infoMsg; rw [hq] at this; simpa using this
    have hz := mcells_size hm
    simp [storeVar, sizeOf, typeInfo, hq, Value.cells, h9, hz, hst]
section
variable {ops : Array Oper} {rest : List Oper} {o : Oper} {a : Act} {w : World} {Q : Exit → Act → World → Prop}
theorem store_in {b : Nat} {t : TypeId} {L : List Msg} {i : Nat} {m m' : Msg} (hgd : o.guard = none) (x y : Operand) (ho : o.op = .store 27 x y) (p : Nat) (hx : a.eval x = .pointer (some ⟨b, p, none⟩)) (hp : p = i * 103) (hy : a.eval y = .agg (mcells m'))
    (hb : RBlk w b t L) (hok : AllOk L) (hi : L[i]? = some m) (hm : m'.Ok)
    (h : wpList Tryd.prog ops Q rest (a.put o.dst undef) (w.setRow b (rowsL (L.set i m')).toArray)) : wpList Tryd.prog ops Q (o :: rest) a w := by
  subst hp
  exact wpList_plain hgd fun _ hK => by
    unfold Oper.wp execOp
    simp only [ho, hx, hy, Instr.storeAt, Instr.sureAddr, Sem.run_bind, Sem.run_pure, Result.andThen_ok, run_storeVar_rows hb hok hi hm]
    exact hK _ _ h
theorem load_in {b : Nat} {t : TypeId} {L : List Msg} {i : Nat} {m : Msg} (hgd : o.guard = none) (x : Operand) (ho : o.op = .load 27 x) (p : Nat) (hx : a.eval x = .pointer (some ⟨b, p, none⟩)) (hp : p = i * 103)
    (hb : RBlk w b t L) (hok : AllOk L) (hi : L[i]? = some m)
    (h : wpList Tryd.prog ops Q rest (a.put o.dst (.agg (mcells m))) w) : wpList Tryd.prog ops Q (o :: rest) a w := by
  subst hp
  exact wpList_load_mid hgd 27 x ho b (i * 103) hx (mcells m).toList _ (hb.range hok hi) Tryd.underlying27 rfl (by rw [mlist_len (hok m (List.mem_of_getElem? hi))]; exact infoMsg) h
end
theorem RBlk.row {w : World} {b : Nat} {t : TypeId} {L L' : List Msg} (h : RBlk w b t L) : RBlk (w.setRow b (rowsL L').toArray) b t L' := ⟨setRow_at h.blk⟩
theorem RBlk.below {w w1 : World} {b : Nat} {t : TypeId} {L : List Msg} (h : RBlk w b t L) (hb : Below w.heap.size w w1) : RBlk w1 b t L := ⟨(hb.block b (Array.getElem?_eq_some_iff.1 h.blk).1).trans h.blk⟩
theorem MBlk.below {w w1 : World} {b : Nat} {m : Msg} (h : MBlk w b m) (hb : Below w.heap.size w w1) : MBlk w1 b m := ⟨(hb.block b h.lt).trans h.blk⟩

/-! the messages that the law lays -/
def N0 : Msg := ⟨7, 15, 4611686018427387904, 2, 0, 2147483647, true, List.replicate 96 0⟩
def NB (j : Nat) : Msg := { N0 with body := List.replicate j 255 ++ List.replicate (96 - j) 0 }
def N1 : Msg := ⟨7, 15, 4611686018427387904, 2, 0, 2147483647, true, List.replicate 96 255⟩
def NZ : Msg := ⟨0, 0, 0, 0, 0, 0, false, List.replicate 96 0⟩
def NF (j : Nat) : List Msg := List.replicate j N1 ++ List.replicate (5 - j) NZ
def R5 : List Msg := [{ N1 with page := 16, op := 4611686018427387905 }, { N1 with mode := 3 }, { N1 with psn := 2147483648 }, { N1 with psn := 0 }, { N1 with kind := 14 }]
def Q0 : Msg := ⟨1, 0, 1, 1, 0, 0, false, List.replicate 96 0⟩
def Q1 : Msg := ⟨3, 0, 1, 0, 8, 0, false, List.replicate 96 0⟩
def Q2 : Msg := ⟨11, 0, 0, 0, 0, 0, false, List.replicate 96 255⟩
def Q3 : Msg := ⟨8, 0, 1, 0, 0, 0, false, List.replicate 96 255⟩
def Q4 : Msg := ⟨8, 0, 1, 0, 0, 1, false, List.replicate 96 0⟩
def Q5 : Msg := ⟨12, 0, 1, 1, 0, 0, false, List.replicate 96 0⟩
def R6 : List Msg := [Q0, Q1, Q2, Q3, Q4, Q5]
def N7 : Msg := ⟨13, 0, 0, 0, 0, 0, false, List.replicate 96 0⟩
def N8 : Msg := ⟨7, 0, 1, 1, 0, 0, false, List.replicate 96 0⟩
def okb (m : Msg) : Bool := [m.kind, m.page, m.op, m.mode, m.dest, m.psn].all (fun z => decide (-9223372036854775808 ≤ z) && decide (z ≤ 9223372036854775807)) && decide (m.body.length = 96)
theorem ok_of {m : Msg} (h : okb m = true) : m.Ok := by
  simp only [okb, List.all_cons, List.all_nil, Bool.and_true, Bool.and_eq_true, decide_eq_true_eq] at h
  obtain ⟨⟨h0, h1, h2, h3, h4, h5⟩, h6⟩ := h
  exact ⟨h0, h1, h2, h3, h4, h5, h6⟩
theorem N0_ok : N0.Ok := ok_of (by decide +kernel)
theorem N1_ok : N1.Ok := ok_of (by decide +kernel)
theorem NZ_ok : NZ.Ok := ok_of (by decide +kernel)
theorem N7_ok : N7.Ok := ok_of (by decide +kernel)
theorem N8_ok : N8.Ok := ok_of (by decide +kernel)
theorem NB_ok {j : Nat} (h : j ≤ 96) : (NB j).Ok := ⟨N0_ok.kind, N0_ok.page, N0_ok.op, N0_ok.mode, N0_ok.dest, N0_ok.psn, by simp [NB]; omega⟩
theorem NB_last : NB 96 = N1 := by kernel_rfl
theorem NB_first : NB 0 = N0 := by kernel_rfl
theorem NB_step {j : Nat} (h : j < 96) : (mcells (NB j)).setIfInBounds (7 + j) (.int .u8 255) = mcells (NB (j + 1)) := by
  have e : (List.replicate j (255 : UInt8) ++ List.replicate (96 - j) 0).set j 255 = List.replicate (j + 1) 255 ++ List.replicate (96 - (j + 1)) 0 := by
    rw [List.set_append_right _ _ (by simp)]
    simp only [List.length_replicate, Nat.sub_self]
    rw [show 96 - j = (96 - (j + 1)) + 1 by omega, List.replicate_succ, List.set_cons_zero, List.replicate_succ' , List.append_assoc]
    rfl
  have := mset_body (NB j) j 255
  rw [show (.int .u8 255 : Value) = .int .u8 ((255 : UInt8).toNat : Int) from rfl, this]
  unfold NB
  rw [← e]
theorem NF_ok (j : Nat) : AllOk (NF j) := fun m hm => by
  rcases List.mem_append.1 hm with h | h
  · rw [(List.mem_replicate.1 h).2]; exact N1_ok
  · rw [(List.mem_replicate.1 h).2]; exact NZ_ok
theorem NF_at {j : Nat} (h : j < 5) : (NF j)[j]? = some NZ := by
  unfold NF
  rw [List.getElem?_append_right (by simp), List.length_replicate, Nat.sub_self, List.getElem?_replicate, if_pos (by omega)]
theorem NF_step {j : Nat} (h : j < 5) : (NF j).set j N1 = NF (j + 1) := by
  unfold NF
  rw [List.set_append_right _ _ (by simp)]
  simp only [List.length_replicate, Nat.sub_self]
  rw [show 5 - j = (5 - (j + 1)) + 1 by omega, List.replicate_succ, List.set_cons_zero, List.replicate_succ', List.append_assoc]
  rfl
theorem all_of {L : List Msg} (h : L.all okb = true) : AllOk L := fun m hm => ok_of (List.all_eq_true.1 h m hm)
theorem R5_ok : AllOk R5 := all_of (by decide +kernel)
theorem R6_ok : AllOk R6 := all_of (by decide +kernel)
theorem R5_no : R5.all (fun m => !mayM m) = true := by decide +kernel
theorem R6_no : R6.all (fun m => !mayM m) = true := by decide +kernel
theorem no_of {L : List Msg} (h : L.all (fun m => !mayM m) = true) {i : Nat} {m : Msg} (hi : L[i]? = some m) : mayM m = false := by
  have := List.all_eq_true.1 h m (List.mem_of_getElem? hi)
  simpa using this
theorem N1_may : mayM N1 = true := by decide +kernel
theorem N7_no : mayM N7 = false := by decide +kernel
theorem N8_may : mayM N8 = true := by decide +kernel
def D1 : Dg := ⟨7, 0, 4611686018427387904, 4611686018427387904, 4611686018427387904, List.replicate 256 0⟩
def D2 : Dg := ⟨7, 0, 4611686018427387904, 4611686018427387904, 4611686018427387904, List.replicate 257 0⟩
def D3 : Dg := ⟨1, 2, 0, 0, 0, [1]⟩
def D4 : Dg := ⟨1, 1, 0, 0, 0, []⟩
theorem D1_may : mayD D1 = true := by decide +kernel
theorem D2_no : mayD D2 = false := by decide +kernel
theorem D3_no : mayD D3 = false := by decide +kernel
theorem D4_no : mayD D4 = false := by decide +kernel
/-- the cells that the walk makes -/
theorem cn0 : (((((Tryd.zeroCells27.setIfInBounds 0 (.int .i64 7)).setIfInBounds 1 (.int .i64 15)).setIfInBounds 2 (.int .i64 4611686018427387904)).setIfInBounds 3 (.int .i64 2)).setIfInBounds 5 (.int .i64 2147483647)).setIfInBounds 6 (.bool true) = mcells N0 := by kernel_rfl
theorem cnf : Tryd.zeroCells64 = (rowsL (NF 0)).toArray := by kernel_rfl
theorem r5e : (((((((rowsL (NF 5)).toArray.setIfInBounds 1 (.int .i64 16)).setIfInBounds 106 (.int .i64 3)).setIfInBounds 211 (.int .i64 2147483648)).setIfInBounds 314 (.int .i64 0)).setIfInBounds 412 (.int .i64 14)).setIfInBounds 2 (.int .i64 4611686018427387905)) = (rowsL R5).toArray := by kernel_rfl
theorem putB_len2 {m : Msg} (hm : m.Ok) (h : mayM m = true) : (putB m).length ≤ 190 := by
  have hb := bounds_of h
  have l0 := enc_len (n := m.kind.toNat) (by unfold U64; have := hb.kind; omega)
  have l1 := enc_len (n := m.page.toNat) (by unfold U64; have := hb.page; omega)
  have l2 := enc_len (n := m.op.toNat) (by unfold U64; have := hb.op; omega)
  have l3 := enc_len (n := m.mode.toNat) (by unfold U64; have := hb.mode; omega)
  have l4 := enc_len (n := m.dest.toNat) (by unfold U64; have := hb.dest; omega)
  have l5 := enc_len (n := m.psn.toNat) (by unfold U64; have := hb.psn; omega)
  have l6 : (flg m.dirty).length = 1 := by cases m.dirty <;> rfl
  have l7 := form_len hm hb 7
  have k1 : fieldB m 1 = enc m.page.toNat := rfl
  have k2 : fieldB m 2 = enc m.op.toNat := rfl
  have k3 : fieldB m 3 = enc m.mode.toNat := rfl
  have k4 : fieldB m 4 = enc m.dest.toNat := rfl
  have k5 : fieldB m 5 = enc m.psn.toNat := rfl
  have k6 : fieldB m 6 = flg m.dirty := rfl
  have key : ((fieldsOf m.kind).map (fieldB m)).flatten.length ≤ 180 := by
    rcases kind_cases hb.kind with e | e | e | e | e | e | e | e | e | e | e | e | e
    all_goals
      rw [e]
      simp [fieldsOf, k1, k2, k3, k4, k5, k6]
      omega
  unfold putB
  rw [List.length_append]
  omega
theorem readV_long {l : List UInt8} (h : 256 < l.length) : readV l = (Tryd.zeroCells27, 3) := by unfold readV; rw [if_pos h]
theorem z257 : readV (List.replicate 257 0) = (Tryd.zeroCells27, 3) := readV_long (by simp)
theorem z513 : answerD (List.replicate 513 0) = (noD, 3) := by unfold answerD; rw [if_pos (by simp)]
theorem made257 : (madeCells (Value.int .u8 0).cells (257 * 1)).toList = bv (List.replicate 257 0) := by kernel_rfl
theorem made256 : (madeCells (Value.int .u8 0).cells (256 * 1)).toList = bv (List.replicate 256 0) := by kernel_rfl
theorem made513 : (madeCells (Value.int .u8 0).cells (513 * 1)).toList = bv (List.replicate 513 0) := by kernel_rfl
theorem bb0 : Tryd.prog.built 27 [(0, .int .i64 1), (2, .int .i64 1), (3, .int .i64 1)] = some (mcells Q0) := by kernel_rfl
theorem bb1 : Tryd.prog.built 27 [(0, .int .i64 3), (2, .int .i64 1), (4, .int .i64 8)] = some (mcells Q1) := by kernel_rfl
theorem bb2 : Tryd.prog.built 27 [(0, .int .i64 11), (7, .agg (bodyV (List.replicate 96 255)))] = some (mcells Q2) := by kernel_rfl
theorem bb3 : Tryd.prog.built 27 [(0, .int .i64 8), (2, .int .i64 1), (7, .agg (bodyV (List.replicate 96 255)))] = some (mcells Q3) := by kernel_rfl
theorem bb4 : Tryd.prog.built 27 [(0, .int .i64 8), (2, .int .i64 1), (5, .int .i64 1)] = some (mcells Q4) := by kernel_rfl
theorem bb5 : Tryd.prog.built 27 [(0, .int .i64 12), (2, .int .i64 1), (3, .int .i64 1)] = some (mcells Q5) := by kernel_rfl
theorem bbs : Tryd.prog.builtSlice 27 6 [(0, .agg (mcells Q0)), (1, .agg (mcells Q1)), (2, .agg (mcells Q2)), (3, .agg (mcells Q3)), (4, .agg (mcells Q4)), (5, .agg (mcells Q5))] = some (rowsL R6).toArray := by kernel_rfl
theorem b7e : Tryd.zeroCells27.setIfInBounds 0 (.int .i64 13) = mcells N7 := by kernel_rfl
theorem b7f : (Tryd.zeroCells27.setIfInBounds 0 (.int .i64 13)).setIfInBounds 5 (.int .i64 0) = mcells N7 := by kernel_rfl
theorem b8e : ((Tryd.zeroCells27.setIfInBounds 0 (.int .i64 7)).setIfInBounds 2 (.int .i64 1)).setIfInBounds 3 (.int .i64 1) = mcells N8 := by kernel_rfl
/-- a read of one byte too many -/
theorem put_extra {m : Msg} (hm : m.Ok) (hy : mayM m = true) (b : UInt8) : readM (putB m ++ [b]) = none :=
  none_of (parse_put hm hy [b]) (.inr (.inl (by simp)))
end Go.Proofs.YtemmdlanidepbaaDoor
