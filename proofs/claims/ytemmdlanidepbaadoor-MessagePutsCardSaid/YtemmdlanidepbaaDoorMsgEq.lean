/- Two messages compared: plain equality. A body stored whole. -/
import Derived.Test.YtemmdlanidepbaaDoorMsgCells
import Derived.Laws.StructEq
namespace Go.Proofs.YtemmdlanidepbaaDoor
open Go.RowKit
set_option linter.unusedSimpArgs false
set_option maxRecDepth 100000

section
variable {P : Program}
/-- as Op.eqFields, over the fields' names, types and places alone -/
def eqT (d : Nat) (xs ys : Array Value) : List (String × TypeId × Nat) → Sem Bool
  | [] => pure true
  | f :: fs =>
    if f.1 ≠ "_" then do
      let a ← part f.2.1 xs f.2.2
      let b ← part f.2.1 ys f.2.2
      let r ← Op.equalIn d f.2.1 a b
      if (!r) = true then pure false else eqT d xs ys fs
    else eqT d xs ys fs
theorem eqFields_T (d : Nat) (xs ys : Array Value) : ∀ fs : List Field, Op.eqFields d xs ys fs = eqT d xs ys (fs.map fun f => (f.name, f.type, f.offset))
  | [] => rfl
  | f :: fs => by simp only [Op.eqFields, eqT, List.map_cons, eqFields_T d xs ys fs]
theorem eqT_step {w : World} {d : Nat} {xs ys : Array Value} {n : String} {t : TypeId} {o : Nat} {fs : List (String × TypeId × Nat)} {x y : Value} {b r : Bool} (hn : n ≠ "_") (hx : (part t xs o).run P w = .ok x w) (hy : (part t ys o).run P w = .ok y w)
    (he : (Op.equalIn d t x y).run P w = .ok b w) (hr : (eqT d xs ys fs).run P w = .ok r w) : (eqT d xs ys ((n, t, o) :: fs)).run P w = .ok (b && r) w := by
  simp only [eqT, hn, ne_eq, not_false_eq_true, if_true, Sem.run_bind, hx, hy, he, Result.andThen_ok]
  cases b
  · simp
  · simpa using hr
theorem part_agg {w : World} {t : TypeId} {cs : Array Value} {o n : Nat} {d : TypeDesc} (hu : P.underlying t = some d) (hd : (match d with | .struct _ | .array _ _ => true | _ => false) = true) (hs : (sizeOf t).run P w = .ok n w) : (part t cs o).run P w = .ok (.agg (cs.extract o (o + n))) w := by
  unfold part isAgg
  simp only [Sem.run_bind, run_underlying hu, Result.andThen_ok, Sem.run_pure, hs]
  cases d <;> simp_all
end
theorem msg_fields : (Tryd.prog.fieldsOf 27).toList.map (fun f => (f.name, f.type, f.offset)) = [("Kind", 22, 0), ("Page", 3, 1), ("Op", 2, 2), ("Mode", 23, 3), ("To", 3, 4), ("PSN", 2, 5), ("Dirty", 4, 6), ("Body", 25, 7)] := by kernel_rfl
theorem msg_under : Tryd.prog.underlying 27 = some (.struct (Tryd.prog.fieldsOf 27)) := by kernel_rfl
theorem msg_stood : Tryd.prog.stoodInHeld 27 = false := by kernel_rfl
theorem body_size (w : World) : (sizeOf 25).run Tryd.prog w = .ok 96 w := by kernel_rfl
theorem mcells_cut {m : Msg} (h : m.Ok) : (mcells m).extract 7 (7 + 96) = bodyV m.body := by
  unfold mcells bodyV
  rw [List.extract_toArray]
  congr 1
  rw [List.extract_eq_take_drop]
  simp [bv_len, h.body, List.take_of_length_le]
/-- are two messages one? -/
def msgB (a b : Msg) : Bool := (a.kind == b.kind) && ((a.page == b.page) && ((a.op == b.op) && ((a.mode == b.mode) && ((a.dest == b.dest) && ((a.psn == b.psn) && ((a.dirty == b.dirty) && (decide (a.body = b.body) && true)))))))
theorem msgB_iff (a b : Msg) : msgB a b = true ↔ a = b := by
  cases a
  cases b
  simp [msgB]
theorem msgB_self (a : Msg) : msgB a a = true := (msgB_iff a a).2 rfl
theorem msgB_ne {a b : Msg} (h : a ≠ b) : msgB a b = false := by
  cases e : msgB a b
  · rfl
  · exact absurd ((msgB_iff a b).1 e) h
theorem msg_eq (w : World) (a b : Msg) (ha : a.Ok) (hb : b.Ok) : (Op.equalIn 10000 27 (.agg (mcells a)) (.agg (mcells b))).run Tryd.prog w = .ok (msgB a b) w := by
  rw [run_equalIn_struct w 9999 27 _ _ msg_under msg_stood, eqFields_T, msg_fields]
  obtain ⟨a0, a1, a2, a3, a4, a5, a6⟩ := mcells_get a
  obtain ⟨b0, b1, b2, b3, b4, b5, b6⟩ := mcells_get b
  have pa : (part 25 (mcells a) 7).run Tryd.prog w = .ok (.agg (bodyV a.body)) w := by rw [part_agg Tryd.underlying25 rfl (body_size w), mcells_cut ha]
  have pb : (part 25 (mcells b) 7).run Tryd.prog w = .ok (.agg (bodyV b.body)) w := by rw [part_agg Tryd.underlying25 rfl (body_size w), mcells_cut hb]
  have e8 : (eqT 9999 (mcells a) (mcells b) []).run Tryd.prog w = .ok true w := rfl
  have hb8 : (Op.equalIn 9999 25 (.agg (bodyV a.body)) (.agg (bodyV b.body))).run Tryd.prog w = .ok (decide (a.body = b.body)) w := by
    obtain ⟨i, hi⟩ : ∃ i, Tryd.prog.info? 5 = some i := ⟨_, rfl⟩
    rw [run_equalIn_array w 9998 _ _ Tryd.underlying25 hi, show Tryd.prog.cellsOf 5 = 1 by kernel_rfl, List.range_eq_range']
    have := eqItems_bytes w 9997 a.body b.body (by rw [ha.body, hb.body]) 96 0 (by rw [ha.body])
    simpa using this
  have e7 := eqT_step (n := "Body") (by decide) pa pb hb8 e8
  have e6 := eqT_step (n := "Dirty") (t := 4) (by decide) (run_part_plain w (by kernel_rfl) a6) (run_part_plain w (by kernel_rfl) b6) (run_equalIn_bool' w 9998 4 _ _ Tryd.underlying4) e7
  have e5 := eqT_step (n := "PSN") (t := 2) (by decide) (run_part_plain w (by kernel_rfl) a5) (run_part_plain w (by kernel_rfl) b5) (run_equalIn_int w 9998 2 .i64 .i64 _ _ Tryd.underlying2) e6
  have e4 := eqT_step (n := "To") (t := 3) (by decide) (run_part_plain w (by kernel_rfl) a4) (run_part_plain w (by kernel_rfl) b4) (run_equalIn_int w 9998 3 .i64 .i64 _ _ Tryd.underlying3) e5
  have e3 := eqT_step (n := "Mode") (t := 23) (by decide) (run_part_plain w (by kernel_rfl) a3) (run_part_plain w (by kernel_rfl) b3) (run_equalIn_int w 9998 23 .i64 .i64 _ _ Tryd.underlying23) e4
  have e2 := eqT_step (n := "Op") (t := 2) (by decide) (run_part_plain w (by kernel_rfl) a2) (run_part_plain w (by kernel_rfl) b2) (run_equalIn_int w 9998 2 .i64 .i64 _ _ Tryd.underlying2) e3
  have e1 := eqT_step (n := "Page") (t := 3) (by decide) (run_part_plain w (by kernel_rfl) a1) (run_part_plain w (by kernel_rfl) b1) (run_equalIn_int w 9998 3 .i64 .i64 _ _ Tryd.underlying3) e2
  have e0 := eqT_step (n := "Kind") (t := 22) (by decide) (run_part_plain w (by kernel_rfl) a0) (run_part_plain w (by kernel_rfl) b0) (run_equalIn_int w 9998 22 .i64 .i64 _ _ Tryd.underlying22) e1
  exact e0
end Go.Proofs.YtemmdlanidepbaaDoor
