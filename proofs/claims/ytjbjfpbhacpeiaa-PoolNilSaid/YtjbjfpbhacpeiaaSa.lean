/- Places compared, one by one and as a row; steps of a drawn region that load whole rows or are left out. -/
import Derived.Test.YtjbjfpbhacpeiaaP8
import Derived.Test.YtjbjfpbhacpeiaaQ1
namespace Go.Proofs.Ytjbjfpbhacpeiaa
open Go.RowKit
set_option linter.unusedSimpArgs false
set_option linter.unusedVariables false
set_option maxRecDepth 100000

theorem seq_skip {P : Program} {ops : Array Oper} {Q : Exit → Act → World → Prop} {T : Nat → Prop} {Bk : List Nat} {i : Nat} {b : Bool} {o : Oper} {a : Act} {w : World} {rest : List (Nat × Bool)} (d : Option Nat) (ho : ops[i]? = some o) (hd : o.dst = d) (hw : Region.wanted o (yielded ops a.tmps) = false)
    (h : wpSeq P ops Q T Bk rest (a.put d undef) w) : wpSeq P ops Q T Bk ((i, b) :: rest) a w := seq_off ho hw (by rw [hd]; exact h)
/-- a whole row is loaded, now or later -/
theorem seq_load_cells {P : Program} {ops : Array Oper} {Q : Exit → Act → World → Prop} {T : Nat → Prop} {Bk : List Nat} {i : Nat} {o : Oper} {a : Act} {w : World} {rest : List (Nat × Bool)} (d : Option Nat) (ho : ops[i]? = some o) (hd : o.dst = d) (hw : Region.wanted o (yielded ops a.tmps) = true) (t : TypeId) (x : Operand) (hop : o.op = .load t x)
    (p : Addr) (cs : Array Value) (hx : a.eval x = .pointer (some p)) (hrun : Up T w (fun u => (Instr.loadAt t (.pointer (some p))).run P u = .ok (.agg cs) u))
    (h : wpSeq P ops Q T Bk rest (a.put d (.agg cs)) w) : wpSeq P ops Q T Bk ((i, true) :: rest) a w :=
  seq_at d ho hd hw (fun u hu => by
    have := hrun u hu
    unfold execOp
    simp only [hop, hx, Sem.run_bind, Sem.run_pure, Result.andThen_ok, this]) h

/-! ### the parts of a place -/
def usedX (x : Slot) : Bool := match x with
  | some l => l.used
  | none => false
def pinsX (x : Slot) : Int := match x with
  | some l => l.pins
  | none => 0
def frX (x : Slot) : Fr := match x with
  | some l => l.f
  | none => fr0
def SFr (x : Slot) : Prop := ∀ l, x = some l → l.f.Ok
theorem frX_ok {x : Slot} (h : SFr x) : (frX x).Ok := by
  cases x with
  | none => exact fr0_ok
  | some l => exact h l rfl
theorem sfr_of {K : Int} {S : PS} (hS : S.Ok K) : ∀ x ∈ S.s, SFr x := fun x hx l e => by
  subst e
  obtain ⟨i, hi, e⟩ := List.mem_iff_getElem.1 hx
  exact (hS.live i l (by rw [List.getElem?_eq_getElem hi, e])).1
theorem sfr_full {K : Int} {S : PS} (hS : S.Ok K) : ∀ x ∈ full S, SFr x := fun x hx => by
  rcases List.mem_append.1 hx with hx | hx
  · exact sfr_of hS x hx
  · rw [(List.mem_replicate.1 hx).2]; exact fun l e => by cases e
theorem pcells_parts (x : Slot) : pcells x = [.bool x.isSome, .bool (usedX x), .int .i64 (pinsX x)] ++ fcells (frX x) := by cases x <;> rfl
theorem scells_parts (x : Slot) : scells x = [.bool x.isSome] ++ fcells (frX x) ++ [.int .i64 (pinsX x), .bool (usedX x)] := by cases x <;> rfl
theorem slotB_parts (x y : Slot) : slotB x y = ((x.isSome == y.isSome) && ((usedX x == usedX y) && ((pinsX x == pinsX y) && (frB (frX x) (frX y) && true)))) := by
  cases x <;> cases y <;> simp [slotB, usedX, pinsX, frX, frB_iff.2, Bool.and_assoc]
theorem slotB_parts2 (x y : Slot) : slotB x y = ((x.isSome == y.isSome) && (frB (frX x) (frX y) && ((pinsX x == pinsX y) && ((usedX x == usedX y) && true)))) := by
  rw [slotB_parts]
  generalize (x.isSome == y.isSome) = a
  generalize (usedX x == usedX y) = b
  generalize (pinsX x == pinsX y) = c
  generalize frB (frX x) (frX y) = d
  cases a <;> cases b <;> cases c <;> cases d <;> rfl
theorem pl_fields : (Try.prog.fieldsOf 66).toList.map (fun f => (f.name, f.type, f.offset)) = [("is", 4, 0), ("used", 4, 1), ("pins", 3, 2), ("f", 39, 3)] := by kernel_rfl
theorem pl_under : Try.prog.underlying 66 = some (.struct (Try.prog.fieldsOf 66)) := by kernel_rfl
theorem pl_stood : Try.prog.stoodInHeld 66 = false := by kernel_rfl
theorem sl_fields : (Try.prog.fieldsOf 84).toList.map (fun f => (f.name, f.type, f.offset)) = [("Is", 4, 0), ("F", 39, 1), ("Pins", 3, 103), ("Used", 4, 104)] := by kernel_rfl
theorem sl_under : Try.prog.underlying 84 = some (.struct (Try.prog.fieldsOf 84)) := by kernel_rfl
theorem sl_stood : Try.prog.stoodInHeld 84 = false := by kernel_rfl
def pcA (x : Slot) : Array Value := (pcells x).toArray
def scA (x : Slot) : Array Value := (scells x).toArray
theorem pcA_get (x : Slot) : (pcA x)[0]? = some (.bool x.isSome) ∧ (pcA x)[1]? = some (.bool (usedX x)) ∧ (pcA x)[2]? = some (.int .i64 (pinsX x)) := by
  rw [pcA, pcells_parts]
  exact ⟨rfl, rfl, rfl⟩
theorem pcA_cut {x : Slot} (h : SFr x) : (pcA x).extract 3 (3 + 102) = fA (frX x) := by
  have := cut_mid [.bool x.isSome, .bool (usedX x), .int .i64 (pinsX x)] (fcells (frX x)) [] 3 102 rfl (fcells_len (frX_ok h))
  rw [List.append_nil] at this
  rw [pcA, pcells_parts, this]
  rfl
theorem scA_get {x : Slot} (h : SFr x) : (scA x)[0]? = some (.bool x.isSome) ∧ (scA x)[103]? = some (.int .i64 (pinsX x)) ∧ (scA x)[104]? = some (.bool (usedX x)) := by
  have hl := fcells_len (frX_ok h)
  have h1 : ([.bool x.isSome] ++ fcells (frX x) : List Value).length = 103 := by simp [hl]
  rw [scA, scells_parts]
  refine ⟨rfl, ?_, ?_⟩
  · rw [List.getElem?_toArray, List.getElem?_append_right (by omega), h1]; rfl
  · rw [List.getElem?_toArray, List.getElem?_append_right (by omega), h1]; rfl
theorem scA_cut {x : Slot} (h : SFr x) : (scA x).extract 1 (1 + 102) = fA (frX x) := by
  have := cut_mid [.bool x.isSome] (fcells (frX x)) [.int .i64 (pinsX x), .bool (usedX x)] 1 102 rfl (fcells_len (frX_ok h))
  rw [scA, scells_parts, this]
  rfl
theorem pl_eq (w : World) (d : Nat) (x y : Slot) (hx : SFr x) (hy : SFr y) : (Op.equalIn (d + 5) 66 (.agg (pcA x)) (.agg (pcA y))).run Try.prog w = .ok (slotB x y) w := by
  rw [run_equalIn_struct w (d + 4) 66 _ _ pl_under pl_stood, eqFields_T, pl_fields]
  obtain ⟨a0, a1, a2⟩ := pcA_get x
  obtain ⟨b0, b1, b2⟩ := pcA_get y
  have pa : (part 39 (pcA x) 3).run Try.prog w = .ok (.agg (fA (frX x))) w := by rw [part_agg fr_under rfl (fr_size w), pcA_cut hx]
  have pb : (part 39 (pcA y) 3).run Try.prog w = .ok (.agg (fA (frX y))) w := by rw [part_agg fr_under rfl (fr_size w), pcA_cut hy]
  have e4 : (eqT (d + 4) (pcA x) (pcA y) []).run Try.prog w = .ok true w := rfl
  have e3 := eqT_step (n := "f") (by decide) pa pb (fr_eq w d _ _ (frX_ok hx) (frX_ok hy)) e4
  have e2 := eqT_step (n := "pins") (t := 3) (by decide) (run_part_plain w (by kernel_rfl) a2) (run_part_plain w (by kernel_rfl) b2) (run_equalIn_int w (d + 3) 3 .i64 .i64 _ _ Try.underlying3) e3
  have e1 := eqT_step (n := "used") (t := 4) (by decide) (run_part_plain w (by kernel_rfl) a1) (run_part_plain w (by kernel_rfl) b1) (run_equalIn_bool' w (d + 3) 4 _ _ Try.underlying4) e2
  have e0 := eqT_step (n := "is") (t := 4) (by decide) (run_part_plain w (by kernel_rfl) a0) (run_part_plain w (by kernel_rfl) b0) (run_equalIn_bool' w (d + 3) 4 _ _ Try.underlying4) e1
  rw [e0, slotB_parts]
theorem sl_eq (w : World) (d : Nat) (x y : Slot) (hx : SFr x) (hy : SFr y) : (Op.equalIn (d + 5) 84 (.agg (scA x)) (.agg (scA y))).run Try.prog w = .ok (slotB x y) w := by
  rw [run_equalIn_struct w (d + 4) 84 _ _ sl_under sl_stood, eqFields_T, sl_fields]
  obtain ⟨a0, a1, a2⟩ := scA_get hx
  obtain ⟨b0, b1, b2⟩ := scA_get hy
  have pa : (part 39 (scA x) 1).run Try.prog w = .ok (.agg (fA (frX x))) w := by rw [part_agg fr_under rfl (fr_size w), scA_cut hx]
  have pb : (part 39 (scA y) 1).run Try.prog w = .ok (.agg (fA (frX y))) w := by rw [part_agg fr_under rfl (fr_size w), scA_cut hy]
  have e4 : (eqT (d + 4) (scA x) (scA y) []).run Try.prog w = .ok true w := rfl
  have e3 := eqT_step (n := "Used") (t := 4) (by decide) (run_part_plain w (by kernel_rfl) a2) (run_part_plain w (by kernel_rfl) b2) (run_equalIn_bool' w (d + 3) 4 _ _ Try.underlying4) e4
  have e2 := eqT_step (n := "Pins") (t := 3) (by decide) (run_part_plain w (by kernel_rfl) a1) (run_part_plain w (by kernel_rfl) b1) (run_equalIn_int w (d + 3) 3 .i64 .i64 _ _ Try.underlying3) e3
  have e1 := eqT_step (n := "F") (by decide) pa pb (fr_eq w d _ _ (frX_ok hx) (frX_ok hy)) e2
  have e0 := eqT_step (n := "Is") (t := 4) (by decide) (run_part_plain w (by kernel_rfl) a0) (run_part_plain w (by kernel_rfl) b0) (run_equalIn_bool' w (d + 3) 4 _ _ Try.underlying4) e1
  rw [e0, slotB_parts2]
theorem sl_equal (w : World) (x y : Slot) (hx : SFr x) (hy : SFr y) : (Op.equalIn 10000 84 (.agg (scA x)) (.agg (scA y))).run Try.prog w = .ok (slotB x y) w := sl_eq w 9995 x y hx hy

/-! ### rows of places -/
def plA (X : List Slot) : Array Value := (X.flatMap pcells).toArray
theorem fl_cut {X : List Slot} (hX : ∀ x ∈ X, (pcells x).length = 105) {i : Nat} {x : Slot} (hi : X[i]? = some x) : (plA X).extract (i * 105) (i * 105 + 105) = pcA x := by
  have hs := fl_split X hX hi
  have hlt := (List.getElem?_eq_some_iff.1 hi).1
  have hl := fl_len X hX
  have := cut_mid ((X.flatMap pcells).take (i * 105)) (pcells x) ((X.flatMap pcells).drop (i * 105 + 105)) (i * 105) 105 (by rw [List.length_take]; omega) (hX x (List.mem_of_getElem? hi))
  rw [← hs] at this
  exact this
theorem pl_size (w : World) : (sizeOf 66).run Try.prog w = .ok 105 w := by kernel_rfl
theorem eqItems_pl (w : World) (d : Nat) (X Y : List Slot) (hX : ∀ x ∈ X, (pcells x).length = 105) (hY : ∀ x ∈ Y, (pcells x).length = 105) (fX : ∀ x ∈ X, SFr x) (fY : ∀ x ∈ Y, SFr x) (hl : X.length = Y.length) :
    ∀ (n i : Nat), i + n = X.length → (Op.eqItems (d + 5) 66 105 (plA X) (plA Y) (List.range' i n)).run Try.prog w = .ok (slotsB (X.drop i) (Y.drop i)) w := by
  intro n
  induction n with
  | zero =>
    intro i hi
    rw [List.drop_eq_nil_of_le (by omega), List.drop_eq_nil_of_le (by omega)]
    simp [Op.eqItems, slotsB]
  | succ n ih =>
    intro i hi
    have h1 : i < X.length := by omega
    have h2 : i < Y.length := by omega
    have p0 : (part 66 (plA X) (i * 105)).run Try.prog w = .ok (.agg (pcA X[i])) w := by rw [part_agg pl_under rfl (pl_size w), fl_cut hX (List.getElem?_eq_getElem h1)]
    have p1 : (part 66 (plA Y) (i * 105)).run Try.prog w = .ok (.agg (pcA Y[i])) w := by rw [part_agg pl_under rfl (pl_size w), fl_cut hY (List.getElem?_eq_getElem h2)]
    rw [List.range'_succ]
    simp only [Op.eqItems, Sem.run_bind, p0, p1, Result.andThen_ok, pl_eq w d X[i] Y[i] (fX _ (List.getElem_mem h1)) (fY _ (List.getElem_mem h2))]
    rw [List.drop_eq_getElem_cons h1, List.drop_eq_getElem_cons h2]
    simp only [slotsB]
    cases hb : slotB X[i] Y[i] with
    | true =>
      simp only [Bool.not_true, Bool.false_eq_true, if_false, Bool.true_and]
      exact ih (i + 1) (by omega)
    | false => simp only [Bool.not_false, if_true, Bool.false_and, Sem.run_pure]
theorem places_equal (w : World) {K K' : Int} {S S' : PS} (hS : S.Ok K) (hS' : S'.Ok K') : (Op.equalIn 10000 67 (.agg (plA (full S))) (.agg (plA (full S')))).run Try.prog w = .ok (slotsB (full S) (full S')) w := by
  obtain ⟨i, hi⟩ : ∃ i, Try.prog.info? 66 = some i := ⟨_, rfl⟩
  rw [run_equalIn_array w 9999 _ _ Try.underlying67 hi, show Try.prog.cellsOf 66 = 105 by kernel_rfl, List.range_eq_range']
  have h1 := full_len hS
  have h2 := full_len hS'
  have := eqItems_pl w 9994 (full S) (full S') (full_ok hS) (full_ok hS') (sfr_full hS) (sfr_full hS') (by rw [h1, h2]) 16 0 (by rw [h1])
  simpa using this
theorem slotsB_same {A B C : List Slot} (h : A.length = B.length) : slotsB (A ++ C) (B ++ C) = slotsB A B := by
  rw [Bool.eq_iff_iff, slotsB_iff, slotsB_iff]
  exact ⟨fun e => (List.append_inj e h).1, fun e => by rw [e]⟩
end Go.Proofs.Ytjbjfpbhacpeiaa
