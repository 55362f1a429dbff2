/- Frames, places and pools compared: plain equality. A body loaded whole. -/
import Derived.Test.YtjbjfpbhacpeiaaP1
import Derived.Laws.StructEq
import Derived.ChangeKeysEq
namespace Go.Proofs.Ytjbjfpbhacpeiaa
open Go.RowKit
set_option linter.unusedSimpArgs false
set_option linter.unusedVariables false
set_option maxRecDepth 100000

/-- a body's noughts -/
def noBody : Array Value := (bv (List.replicate 96 0)).toArray
def bodyV (l : List UInt8) : Array Value := (bv l).toArray
theorem noBody_eq : noBody = bodyV (List.replicate 96 0) := rfl

/-- is there nothing in it? -/
def bodyZ (l : List UInt8) : Bool := decide (l = List.replicate 96 0)
theorem bv_get (l : List UInt8) (i : Nat) (hi : i < l.length) : (bodyV l)[i]? = some (.int .u8 ((l[i]).toNat : Int)) := by simp [bodyV, bv, List.getElem?_eq_getElem hi]
theorem eqItems_bytes (w : World) (d : Nat) (l m : List UInt8) (hl : l.length = m.length) : ∀ (n i : Nat), i + n = l.length → (Op.eqItems (d + 1) 5 1 (bodyV l) (bodyV m) (List.range' i n)).run Try.prog w = .ok (decide (l.drop i = m.drop i)) w := by
  intro n
  induction n with
  | zero =>
    intro i hi
    rw [List.drop_eq_nil_of_le (by omega), List.drop_eq_nil_of_le (by omega)]
    simp [Op.eqItems]
  | succ n ih =>
    intro i hi
    have h1 : i < l.length := by omega
    have h2 : i < m.length := by omega
    rw [List.range'_succ]
    have p0 : (part 5 (bodyV l) (i * 1)).run Try.prog w = .ok (.int .u8 ((l[i]).toNat : Int)) w := run_part_plain w (by kernel_rfl) (by rw [Nat.mul_one]; exact bv_get l i h1)
    have p1 : (part 5 (bodyV m) (i * 1)).run Try.prog w = .ok (.int .u8 ((m[i]).toNat : Int)) w := run_part_plain w (by kernel_rfl) (by rw [Nat.mul_one]; exact bv_get m i h2)
    simp only [Op.eqItems, Sem.run_bind, p0, p1, Result.andThen_ok, run_equalIn_int w d 5 .u8 .u8 _ _ Try.underlying5]
    rw [List.drop_eq_getElem_cons h1, List.drop_eq_getElem_cons h2]
    by_cases he : l[i] = m[i]
    · have : (((l[i]).toNat : Int) == ((m[i]).toNat : Int)) = true := by simp [he]
      rw [this]
      simp only [Bool.not_true, Bool.false_eq_true, if_false]
      rw [ih (i + 1) (by omega)]
      simp only [List.cons.injEq, he, true_and]
    · have hne : ¬ ((l[i]).toNat : Int) = ((m[i]).toNat : Int) := fun h => he (UInt8.toNat_inj.1 (by omega))
      have : (((l[i]).toNat : Int) == ((m[i]).toNat : Int)) = false := by simpa using hne
      rw [this]
      simp only [List.cons.injEq, he, false_and, decide_false, Bool.not_false, if_true, Sem.run_pure]
theorem body_eq (w : World) (l m : List UInt8) (hl : l.length = 96) (hm : m.length = 96) : (Op.equalIn 10000 35 (.agg (bodyV l)) (.agg (bodyV m))).run Try.prog w = .ok (decide (l = m)) w := by
  obtain ⟨i, hi⟩ : ∃ i, Try.prog.info? 5 = some i := ⟨_, rfl⟩
  rw [run_equalIn_array w 9999 _ _ Try.underlying35 hi]
  rw [show Try.prog.cellsOf 5 = 1 by kernel_rfl, List.range_eq_range']
  have := eqItems_bytes w 9998 l m (by omega) 96 0 (by omega)
  simpa using this
theorem wp_load_cells {P : Program} {o : Oper} {a : Act} {w : World} {K : Act → World → Prop} {Q : Exit → Act → World → Prop} (ty : TypeId) (x : Operand) (ho : o.op = .load ty x) (p : Addr) (hx : a.eval x = .pointer (some p)) (cs : Array Value)
    (hrun : (loadVar ty p).run P w = .ok (.agg cs) w) (h : K (a.put o.dst (.agg cs)) w) : o.wp P a w K Q := by
  unfold Oper.wp execOp
  simp only [ho, hx, Instr.loadAt, Instr.sureAddr, Sem.run_bind, Sem.run_pure, Result.andThen_ok, hrun]
  exact h
theorem wpList_load_cells {P : Program} {ops : Array Oper} {rest : List Oper} {o : Oper} {a : Act} {w : World} {Q : Exit → Act → World → Prop} (hgd : o.guard = none) (ty : TypeId) (x : Operand) (ho : o.op = .load ty x) (p : Addr) (hx : a.eval x = .pointer (some p)) (cs : Array Value)
    (hrun : (loadVar ty p).run P w = .ok (.agg cs) w) (h : wpList P ops Q rest (a.put o.dst (.agg cs)) w) : wpList P ops Q (o :: rest) a w :=
  wpList_plain hgd fun _ hK => wp_load_cells ty x ho p hx cs hrun (hK _ _ h)
theorem infoBody : (Try.prog.info? 35).map (·.size) = some 96 := by kernel_rfl
/-- the body's cells, loaded -/
theorem body_load {w : World} {p : Addr} {l : List UInt8} (hl : l.length = 96) (h : At w (some p) (bv l)) : (loadVar 35 p).run Try.prog w = .ok (.agg (bodyV l)) w := by
  have hc : (loadCells p (bv l).length).run Try.prog w = .ok (bv l).toArray w := run_loadCells_list (P := Try.prog) w p (bv l) (fun j v hv => by
    obtain ⟨ad, e, hc⟩ := h j v hv
    injection e with e
    subst e
    exact hc)
  rw [bv_len, hl] at hc
  cases hq : Try.prog.info? 35 with
  | none => have := infoBody; rw [hq] at this; cases this
  | some i =>
    have hs : i.size = 96 := by have := infoBody; rw [hq] at this; simpa using this
    have hagg : (isAgg 35).run Try.prog w = .ok true w := by
      unfold isAgg
      rw [Sem.run_bind, run_underlying Try.underlying35 w]
      rfl
    simp [loadVar, Sem.run_bind, hagg, sizeOf, typeInfo, hq, hs, hc, bodyV]
theorem built_none : (Try.prog.built 35 []).isSome = true := by kernel_rfl
theorem built_zero : (Try.prog.built 35 []).getD #[] = noBody := by kernel_rfl
theorem wp_build_none {o : Oper} {a : Act} {w : World} {K : Act → World → Prop} {Q : Exit → Act → World → Prop} (ho : o.op = .build 35 #[]) (h : K (a.put o.dst (.agg noBody)) w) : o.wp Try.prog a w K Q := by
  have e : ∀ f : Nat × Operand → Nat × Value, (Array.map f #[]).toList = [] := fun f => by simp
  refine wp_build 35 #[] ho ?_ ?_
  · rw [e]
    exact built_none
  · rw [e, built_zero]
    exact h
section
variable {P : Program}
/-- as Op.eqFields, over the fields' names, types and places alone -/
def eqT (d : Nat) (xs ys : Array Value) : List (String × TypeId × Nat) → Sem Bool
  | [] => pure true
  | f :: fs =>
    if f.1 ≠ "_" then do
      let a ← part f.2.1 xs f.2.2
      let b ← part f.2.1 ys f.2.2
      let r ← Op.equalIn d f.2.1 a b
      if (!r) = true then pure false else eqT d xs ys fs
    else eqT d xs ys fs
theorem eqFields_T (d : Nat) (xs ys : Array Value) : ∀ fs : List Field, Op.eqFields d xs ys fs = eqT d xs ys (fs.map fun f => (f.name, f.type, f.offset))
  | [] => rfl
  | f :: fs => by simp only [Op.eqFields, eqT, List.map_cons, eqFields_T d xs ys fs]
theorem eqT_step {w : World} {d : Nat} {xs ys : Array Value} {n : String} {t : TypeId} {o : Nat} {fs : List (String × TypeId × Nat)} {x y : Value} {b r : Bool} (hn : n ≠ "_") (hx : (part t xs o).run P w = .ok x w) (hy : (part t ys o).run P w = .ok y w)
    (he : (Op.equalIn d t x y).run P w = .ok b w) (hr : (eqT d xs ys fs).run P w = .ok r w) : (eqT d xs ys ((n, t, o) :: fs)).run P w = .ok (b && r) w := by
  simp only [eqT, hn, ne_eq, not_false_eq_true, if_true, Sem.run_bind, hx, hy, he, Result.andThen_ok]
  cases b
  · simp
  · simpa using hr
theorem part_agg {w : World} {t : TypeId} {cs : Array Value} {o n : Nat} {d : TypeDesc} (hu : P.underlying t = some d) (hd : (match d with | .struct _ | .array _ _ => true | _ => false) = true) (hs : (sizeOf t).run P w = .ok n w) : (part t cs o).run P w = .ok (.agg (cs.extract o (o + n))) w := by
  unfold part isAgg
  simp only [Sem.run_bind, run_underlying hu, Result.andThen_ok, Sem.run_pure, hs]
  cases d <;> simp_all
end

/-! ### frames -/
def vcells (f : Fr) : Array Value := ((.int .i64 f.psn : Value) :: bv f.body).toArray
theorem fr_fields : (Try.prog.fieldsOf 39).toList.map (fun f => (f.name, f.type, f.offset)) = [("Page", 3, 0), ("Mode", 33, 1), ("Op", 2, 2), ("First", 2, 3), ("V", 37, 4), ("Dirty", 4, 101)] := by kernel_rfl
theorem fr_under : Try.prog.underlying 39 = some (.struct (Try.prog.fieldsOf 39)) := by kernel_rfl
theorem fr_stood : Try.prog.stoodInHeld 39 = false := by kernel_rfl
theorem ve_fields : (Try.prog.fieldsOf 37).toList.map (fun f => (f.name, f.type, f.offset)) = [("PSN", 2, 0), ("Body", 35, 1)] := by kernel_rfl
theorem ve_under : Try.prog.underlying 37 = some (.struct (Try.prog.fieldsOf 37)) := by kernel_rfl
theorem ve_stood : Try.prog.stoodInHeld 37 = false := by kernel_rfl
theorem body_size (w : World) : (sizeOf 35).run Try.prog w = .ok 96 w := by kernel_rfl
theorem ve_size (w : World) : (sizeOf 37).run Try.prog w = .ok 97 w := by kernel_rfl
theorem fr_size (w : World) : (sizeOf 39).run Try.prog w = .ok 102 w := by kernel_rfl
theorem cut_mid (A B C : List Value) (o n : Nat) (h1 : A.length = o) (h2 : B.length = n) : ((A ++ B ++ C).toArray).extract o (o + n) = B.toArray := by
  rw [List.extract_toArray]
  congr 1
  rw [List.extract_eq_take_drop]
  simp [h1, h2, List.drop_append, List.take_append]
theorem vcells_cut {f : Fr} (h : f.Ok) : (vcells f).extract 1 (1 + 96) = bodyV f.body := by
  have := cut_mid [.int .i64 f.psn] (bv f.body) [] 1 96 rfl (by rw [bv_len, h.body])
  simpa [vcells, bodyV] using this
theorem fA_cut {f : Fr} (h : f.Ok) : (fA f).extract 4 (4 + 97) = vcells f := by
  have := cut_mid [.int .i64 f.page, .int .i64 f.mode, .int .i64 f.op, .int .i64 f.first] ((.int .i64 f.psn : Value) :: bv f.body) [.bool f.dirty] 4 97 rfl (by simp [bv_len, h.body])
  simpa [fA, fcells, vcells] using this
theorem fA_get {f : Fr} (h : f.Ok) : (fA f)[0]? = some (.int .i64 f.page) ∧ (fA f)[1]? = some (.int .i64 f.mode) ∧ (fA f)[2]? = some (.int .i64 f.op) ∧ (fA f)[3]? = some (.int .i64 f.first) ∧ (fA f)[4]? = some (.int .i64 f.psn) ∧ (fA f)[101]? = some (.bool f.dirty) := by
  refine ⟨by simp [fA, fcells], by simp [fA, fcells], by simp [fA, fcells], by simp [fA, fcells], by simp [fA, fcells], ?_⟩
  simp only [fA, fcells, List.getElem?_toArray]
  rw [List.getElem?_append_right (by simp [bv_len, h.body])]
  simp [bv_len, h.body]
theorem ve_eq (w : World) (d : Nat) (a b : Fr) (ha : a.Ok) (hb : b.Ok) : (Op.equalIn (d + 3) 37 (.agg (vcells a)) (.agg (vcells b))).run Try.prog w = .ok ((a.psn == b.psn) && (decide (a.body = b.body) && true)) w := by
  rw [run_equalIn_struct w (d + 2) 37 _ _ ve_under ve_stood, eqFields_T, ve_fields]
  have pa : (part 35 (vcells a) 1).run Try.prog w = .ok (.agg (bodyV a.body)) w := by rw [part_agg Try.underlying35 rfl (body_size w), vcells_cut ha]
  have pb : (part 35 (vcells b) 1).run Try.prog w = .ok (.agg (bodyV b.body)) w := by rw [part_agg Try.underlying35 rfl (body_size w), vcells_cut hb]
  have hb8 : (Op.equalIn (d + 2) 35 (.agg (bodyV a.body)) (.agg (bodyV b.body))).run Try.prog w = .ok (decide (a.body = b.body)) w := by
    obtain ⟨i, hi⟩ : ∃ i, Try.prog.info? 5 = some i := ⟨_, rfl⟩
    rw [run_equalIn_array w (d + 1) _ _ Try.underlying35 hi, show Try.prog.cellsOf 5 = 1 by kernel_rfl, List.range_eq_range']
    have := eqItems_bytes w d a.body b.body (by rw [ha.body, hb.body]) 96 0 (by rw [ha.body])
    simpa using this
  have e2 : (eqT (d + 2) (vcells a) (vcells b) []).run Try.prog w = .ok true w := rfl
  have e1 := eqT_step (n := "Body") (by decide) pa pb hb8 e2
  exact eqT_step (n := "PSN") (t := 2) (by decide) (run_part_plain w (by kernel_rfl) (by simp [vcells])) (run_part_plain w (by kernel_rfl) (by simp [vcells])) (run_equalIn_int w (d + 1) 2 .i64 .i64 _ _ Try.underlying2) e1
theorem fr_eq (w : World) (d : Nat) (a b : Fr) (ha : a.Ok) (hb : b.Ok) : (Op.equalIn (d + 4) 39 (.agg (fA a)) (.agg (fA b))).run Try.prog w = .ok (frB a b) w := by
  rw [run_equalIn_struct w (d + 3) 39 _ _ fr_under fr_stood, eqFields_T, fr_fields]
  obtain ⟨a0, a1, a2, a3, a4, a5⟩ := fA_get ha
  obtain ⟨b0, b1, b2, b3, b4, b5⟩ := fA_get hb
  have pa : (part 37 (fA a) 4).run Try.prog w = .ok (.agg (vcells a)) w := by rw [part_agg Try.underlying37 rfl (ve_size w), fA_cut ha]
  have pb : (part 37 (fA b) 4).run Try.prog w = .ok (.agg (vcells b)) w := by rw [part_agg Try.underlying37 rfl (ve_size w), fA_cut hb]
  have e6 : (eqT (d + 3) (fA a) (fA b) []).run Try.prog w = .ok true w := rfl
  have e5 := eqT_step (n := "Dirty") (t := 4) (by decide) (run_part_plain w (by kernel_rfl) a5) (run_part_plain w (by kernel_rfl) b5) (run_equalIn_bool' w (d + 2) 4 _ _ Try.underlying4) e6
  have e4 := eqT_step (n := "V") (by decide) pa pb (ve_eq w d a b ha hb) e5
  have e3 := eqT_step (n := "First") (t := 2) (by decide) (run_part_plain w (by kernel_rfl) a3) (run_part_plain w (by kernel_rfl) b3) (run_equalIn_int w (d + 2) 2 .i64 .i64 _ _ Try.underlying2) e4
  have e2 := eqT_step (n := "Op") (t := 2) (by decide) (run_part_plain w (by kernel_rfl) a2) (run_part_plain w (by kernel_rfl) b2) (run_equalIn_int w (d + 2) 2 .i64 .i64 _ _ Try.underlying2) e3
  have e1 := eqT_step (n := "Mode") (t := 33) (by decide) (run_part_plain w (by kernel_rfl) a1) (run_part_plain w (by kernel_rfl) b1) (run_equalIn_int w (d + 2) 33 .i64 .i64 _ _ Try.underlying33) e2
  have e0 := eqT_step (n := "Page") (t := 3) (by decide) (run_part_plain w (by kernel_rfl) a0) (run_part_plain w (by kernel_rfl) b0) (run_equalIn_int w (d + 2) 3 .i64 .i64 _ _ Try.underlying3) e1
  rw [e0]
  congr 1
  simp [frB, Bool.and_assoc]
theorem fr_equal (w : World) (a b : Fr) (ha : a.Ok) (hb : b.Ok) : (Op.equalIn 10000 39 (.agg (fA a)) (.agg (fA b))).run Try.prog w = .ok (frB a b) w := fr_eq w 9996 a b ha hb

/-! ### a frame in a block -/
structure FCells (w : World) (g : Nat) (f : Fr) : Prop where
  row : w.heap[g]? = some (.cells (fA f) 39 (0, 0))
section
variable {w : World} {g : Nat} {f : Fr} (h : FCells w g f) (hf : f.Ok)
include h hf
theorem FCells.c : w.cell? ⟨g, 0, none⟩ = some (.int .i64 f.page) ∧ w.cell? ⟨g, 1, none⟩ = some (.int .i64 f.mode) ∧ w.cell? ⟨g, 2, none⟩ = some (.int .i64 f.op) ∧ w.cell? ⟨g, 3, none⟩ = some (.int .i64 f.first) ∧ w.cell? ⟨g, 4, none⟩ = some (.int .i64 f.psn) := by
  obtain ⟨a0, a1, a2, a3, a4, a5⟩ := fA_get hf
  refine ⟨?_, ?_, ?_, ?_, ?_⟩
  all_goals simp [World.cell?, h.row, *]
theorem FCells.bodyAt : At w (some ⟨g, 5, none⟩) (bv f.body) := fun j u hj => ⟨_, rfl, by
  have e : (⟨g, 5, none⟩ : Addr).add j = ⟨g, 5 + j, none⟩ := by unfold Addr.add; split <;> simp_all
  have hj2 : j < 96 := by have := (List.getElem?_eq_some_iff.1 hj).1; rw [bv_len, hf.body] at this; exact this
  rw [e]
  simp only [World.cell?, h.row]
  have : (fA f)[5 + j]? = some u := by
    simp only [fA, fcells, List.getElem?_toArray]
    rw [List.getElem?_append_left (by simp [bv_len, hf.body]; omega), List.getElem?_append_right (by simp)]
    simpa using hj
  simp [this]⟩
end
end Go.Proofs.Ytjbjfpbhacpeiaa
