/- Two messages compared: plain equality. A body stored whole. Contract of millpondref18.May. -/
import Derived.Test.YtemmdlanidepbaaDoorMsgCells
import Derived.Laws.StructEq
import Derived.Test.YtemmdlanidepbaaDoorRefField
import Derived.Test.YtemmdlanidepbaaDoorReadC
import Derived.Laws.CopyRow
namespace Go.Proofs.YtemmdlanidepbaaDoor
open Go.RowKit
set_option linter.unusedSimpArgs false
set_option maxRecDepth 100000

section
variable {P : Program}
/-- as Op.eqFields, over the fields' names, types and places alone -/
def eqT (d : Nat) (xs ys : Array Value) : List (String × TypeId × Nat) → Sem Bool
  | [] => pure true
  | f :: fs =>
    if f.1 ≠ "_" then do
      let a ← part f.2.1 xs f.2.2
      let b ← part f.2.1 ys f.2.2
      let r ← Op.equalIn d f.2.1 a b
      if (!r) = true then pure false else eqT d xs ys fs
    else eqT d xs ys fs
theorem eqFields_T (d : Nat) (xs ys : Array Value) : ∀ fs : List Field, Op.eqFields d xs ys fs = eqT d xs ys (fs.map fun f => (f.name, f.type, f.offset))
  | [] => rfl
  | f :: fs => by simp only [Op.eqFields, eqT, List.map_cons, eqFields_T d xs ys fs]
theorem eqT_step {w : World} {d : Nat} {xs ys : Array Value} {n : String} {t : TypeId} {o : Nat} {fs : List (String × TypeId × Nat)} {x y : Value} {b r : Bool} (hn : n ≠ "_") (hx : (part t xs o).run P w = .ok x w) (hy : (part t ys o).run P w = .ok y w)
    (he : (Op.equalIn d t x y).run P w = .ok b w) (hr : (eqT d xs ys fs).run P w = .ok r w) : (eqT d xs ys ((n, t, o) :: fs)).run P w = .ok (b && r) w := by
  simp only [eqT, hn, ne_eq, not_false_eq_true, if_true, Sem.run_bind, hx, hy, he, Result.andThen_ok]
  cases b
  · simp
  · simpa using hr
theorem part_agg {w : World} {t : TypeId} {cs : Array Value} {o n : Nat} {d : TypeDesc} (hu : P.underlying t = some d) (hd : (match d with | .struct _ | .array _ _ => true | _ => false) = true) (hs : (sizeOf t).run P w = .ok n w) : (part t cs o).run P w = .ok (.agg (cs.extract o (o + n))) w := by
  unfold part isAgg
  simp only [Sem.run_bind, run_underlying hu, Result.andThen_ok, Sem.run_pure, hs]
  cases d <;> simp_all
end
theorem msg_fields : (Tryd.prog.fieldsOf 27).toList.map (fun f => (f.name, f.type, f.offset)) = [("Kind", 22, 0), ("Page", 3, 1), ("Op", 2, 2), ("Mode", 23, 3), ("To", 3, 4), ("PSN", 2, 5), ("Dirty", 4, 6), ("Body", 25, 7)] := by kernel_rfl
theorem msg_under : Tryd.prog.underlying 27 = some (.struct (Tryd.prog.fieldsOf 27)) := by kernel_rfl
theorem msg_stood : Tryd.prog.stoodInHeld 27 = false := by kernel_rfl
theorem body_size (w : World) : (sizeOf 25).run Tryd.prog w = .ok 96 w := by kernel_rfl
theorem mcells_cut {m : Msg} (h : m.Ok) : (mcells m).extract 7 (7 + 96) = bodyV m.body := by
  unfold mcells bodyV
  rw [List.extract_toArray]
  congr 1
  rw [List.extract_eq_take_drop]
  simp [bv_len, h.body, List.take_of_length_le]
/-- are two messages one? -/
def msgB (a b : Msg) : Bool := (a.kind == b.kind) && ((a.page == b.page) && ((a.op == b.op) && ((a.mode == b.mode) && ((a.dest == b.dest) && ((a.psn == b.psn) && ((a.dirty == b.dirty) && (decide (a.body = b.body) && true)))))))
theorem msgB_iff (a b : Msg) : msgB a b = true ↔ a = b := by
  cases a
  cases b
  simp [msgB]
theorem msgB_self (a : Msg) : msgB a a = true := (msgB_iff a a).2 rfl
theorem msgB_ne {a b : Msg} (h : a ≠ b) : msgB a b = false := by
  cases e : msgB a b
  · rfl
  · exact absurd ((msgB_iff a b).1 e) h
theorem msg_eq (w : World) (a b : Msg) (ha : a.Ok) (hb : b.Ok) : (Op.equalIn 10000 27 (.agg (mcells a)) (.agg (mcells b))).run Tryd.prog w = .ok (msgB a b) w := by
  rw [run_equalIn_struct w 9999 27 _ _ msg_under msg_stood, eqFields_T, msg_fields]
  obtain ⟨a0, a1, a2, a3, a4, a5, a6⟩ := mcells_get a
  obtain ⟨b0, b1, b2, b3, b4, b5, b6⟩ := mcells_get b
  have pa : (part 25 (mcells a) 7).run Tryd.prog w = .ok (.agg (bodyV a.body)) w := by rw [part_agg Tryd.underlying25 rfl (body_size w), mcells_cut ha]
  have pb : (part 25 (mcells b) 7).run Tryd.prog w = .ok (.agg (bodyV b.body)) w := by rw [part_agg Tryd.underlying25 rfl (body_size w), mcells_cut hb]
  have e8 : (eqT 9999 (mcells a) (mcells b) []).run Tryd.prog w = .ok true w := rfl
  have hb8 : (Op.equalIn 9999 25 (.agg (bodyV a.body)) (.agg (bodyV b.body))).run Tryd.prog w = .ok (decide (a.body = b.body)) w := by
    obtain ⟨i, hi⟩ : ∃ i, Tryd.prog.info? 5 = some i := ⟨_, rfl⟩
    rw [run_equalIn_array w 9998 _ _ Tryd.underlying25 hi, show Tryd.prog.cellsOf 5 = 1 by kernel_rfl, List.range_eq_range']
    have := eqItems_bytes w 9997 a.body b.body (by rw [ha.body, hb.body]) 96 0 (by rw [ha.body])
    simpa using this
  have e7 := eqT_step (n := "Body") (by decide) pa pb hb8 e8
  have e6 := eqT_step (n := "Dirty") (t := 4) (by decide) (run_part_plain w (by kernel_rfl) a6) (run_part_plain w (by kernel_rfl) b6) (run_equalIn_bool' w 9998 4 _ _ Tryd.underlying4) e7
  have e5 := eqT_step (n := "PSN") (t := 2) (by decide) (run_part_plain w (by kernel_rfl) a5) (run_part_plain w (by kernel_rfl) b5) (run_equalIn_int w 9998 2 .i64 .i64 _ _ Tryd.underlying2) e6
  have e4 := eqT_step (n := "To") (t := 3) (by decide) (run_part_plain w (by kernel_rfl) a4) (run_part_plain w (by kernel_rfl) b4) (run_equalIn_int w 9998 3 .i64 .i64 _ _ Tryd.underlying3) e5
  have e3 := eqT_step (n := "Mode") (t := 23) (by decide) (run_part_plain w (by kernel_rfl) a3) (run_part_plain w (by kernel_rfl) b3) (run_equalIn_int w 9998 23 .i64 .i64 _ _ Tryd.underlying23) e4
  have e2 := eqT_step (n := "Op") (t := 2) (by decide) (run_part_plain w (by kernel_rfl) a2) (run_part_plain w (by kernel_rfl) b2) (run_equalIn_int w 9998 2 .i64 .i64 _ _ Tryd.underlying2) e3
  have e1 := eqT_step (n := "Page") (t := 3) (by decide) (run_part_plain w (by kernel_rfl) a1) (run_part_plain w (by kernel_rfl) b1) (run_equalIn_int w 9998 3 .i64 .i64 _ _ Tryd.underlying3) e2
  have e0 := eqT_step (n := "Kind") (t := 22) (by decide) (run_part_plain w (by kernel_rfl) a0) (run_part_plain w (by kernel_rfl) b0) (run_equalIn_int w 9998 22 .i64 .i64 _ _ Tryd.underlying22) e1
  exact e0
end Go.Proofs.YtemmdlanidepbaaDoor
namespace Go.Proofs.YtemmdlanidepbaaDoor
open Go.RowKit
set_option linter.unusedSimpArgs false
set_option maxRecDepth 100000

/-- may a message be? as the document says it -/
def refMayB (m : Msg) : Bool := (fieldsOf m.kind).all (okF m) && (decide (0 < (fieldsOf m.kind).length) && msgB ((fieldsOf m.kind).foldl (fun a f => setF a m f) (bareM m.kind)) m)
theorem run_storeVar_body (w : World) (g : Nat) (m : Msg) (b : List UInt8) (hb : b.length = 96) (hm : m.body.length = 96) (hg : MBlk w g m) : (storeVar 25 ⟨g, 7, none⟩ (.agg (bodyV b))).run Tryd.prog w = .ok () (w.setRow g (mcells { m with body := b })) := by
  have hst := run_storeCells_at Tryd.prog g 7 27 (bv b) 0 (mcells m) w hg.blk (by simp [mcells, bv_len, hb, hm]) (bv_one _)
  have e := mset7 m b
  rw [show m.body.drop b.length = [] by rw [List.drop_eq_nil_of_le (by omega)], List.append_nil] at e
  rw [Nat.add_zero, List.append_assoc, e] at hst
  have hs : (sizeOf 25).run Tryd.prog w = .ok 96 w := body_size w
  cases hq : Tryd.prog.info? 25 with
  | none => have := infoBody; rw [hq] at this; cases this
  | some i =>
    have h9 : i.size = 96 := by have := infoBody; rw [hq] at this; simpa using this
    have hz : (bodyV b).size = 96 := by simp [bodyV, bv_len, hb]
    simp [storeVar, sizeOf, typeInfo, hq, Value.cells, h9, hz, bodyV, hst, bv_len, hb]
theorem wpList_store_body {ops : Array Oper} {rest : List Oper} {o : Oper} {a : Act} {w : World} {Q : Exit → Act → World → Prop} (hgd : o.guard = none) (x y : Operand) (ho : o.op = .store 25 x y)
    (g : Nat) (m : Msg) (b : List UInt8) (hx : a.eval x = .pointer (some ⟨g, 7, none⟩)) (hy : a.eval y = .agg (bodyV b)) (hb : b.length = 96) (hm : m.body.length = 96) (hg : MBlk w g m)
    (h : wpList Tryd.prog ops Q rest (a.put o.dst undef) (w.setRow g (mcells { m with body := b }))) : wpList Tryd.prog ops Q (o :: rest) a w :=
  wpList_plain hgd fun _ hK => by
    unfold Oper.wp execOp
    simp only [ho, hx, hy, Instr.storeAt, Instr.sureAddr, Sem.run_bind, Sem.run_pure, Result.andThen_ok, run_storeVar_body w g m b hb hm hg]
    exact hK _ _ h
theorem setF_len {m0 m : Msg} {f : Int} (h0 : m0.body.length = 96) (h : m.body.length = 96) : (setF m0 m f).body.length = 96 := by
  unfold setF
  repeat' split
  all_goals first | exact h0 | exact h
theorem fold_snoc {m : Msg} {F : List Int} {j : Nat} (h : j < F.length) (z : Msg) : (F.take (j + 1)).foldl (fun a f => setF a m f) z = setF ((F.take j).foldl (fun a f => setF a m f) z) m F[j] := by
  rw [List.take_succ_eq_append_getElem h, List.foldl_append]
  rfl
theorem all_snoc {m : Msg} {F : List Int} {j : Nat} (h : j < F.length) (h1 : (F.take j).all (okF m) = true) (h2 : okF m F[j] = true) : (F.take (j + 1)).all (okF m) = true := by
  rw [List.take_succ_eq_append_getElem h, List.all_append, h1]
  simp [h2]
theorem all_false {m : Msg} {F : List Int} {j : Nat} (h : j < F.length) (h2 : okF m F[j] = false) : F.all (okF m) = false := by
  rw [List.all_eq_false]
  exact ⟨F[j], List.getElem_mem h, by simp [h2]⟩
theorem setF_ok {m0 m : Msg} {f : Int} (h0 : m0.Ok) (h : m.Ok) : (setF m0 m f).Ok := by
  unfold setF
  repeat' split
  all_goals first | exact h0 | (constructor <;> first | exact h0.kind | exact h0.page | exact h0.op | exact h0.mode | exact h0.dest | exact h0.psn | exact h0.body | exact h.page | exact h.op | exact h.mode | exact h.dest | exact h.psn | exact h.body)
theorem bareM_ok {k : Int} (h : I64 k) : (bareM k).Ok := by
  have h0 : I64 0 := by unfold I64; omega
  exact ⟨h, h0, h0, h0, h0, h0, List.length_replicate⟩
theorem fold_ok {m : Msg} (hm : m.Ok) : ∀ (F : List Int) (z : Msg), z.Ok → (F.foldl (fun a f => setF a m f) z).Ok := by
  intro F
  induction F with
  | nil => intro z hz; exact hz
  | cons f F ih => intro z hz; exact ih _ (setF_ok hz hm)

theorem below_of_row {B : Nat} (w : World) (g : Nat) (cs : Array Value) (h : B ≤ g) : Below B w (w.setRow g cs) :=
  ⟨rfl, rfl, rfl, by simp [World.setRow], fun k hk => by
    have : g ≠ k := by omega
    simp [World.setRow, Array.getElem?_modify, this]⟩
set_option maxHeartbeats 8000000 in
theorem refMay_walk (m : Msg) (hm : m.Ok) (w : World) : Calls Tryd.prog 11 #[.agg (mcells m)] w (OkR w (refMayB m)) := by
  have MC := MCells.box w m
  have hb0 : Below w.heap.size w (w.alloc (.cells (mcells m) 27)) := (Below.refl _ _).alloc (Nat.le_refl _) _
  have hbx := heap_alloc_new w (.cells (mcells m) 27)
  have HS := Lib.hid (mcells_size hm)
  obtain ⟨mc, hmc⟩ : ∃ mc, mc = mcells m := ⟨_, rfl⟩
  rw [← hmc] at MC hb0 hbx HS ⊢
  have HMC := Lib.hid hmc
  clear hmc
  go_enter Tryd.func11, Tryd.ntmps11
  have c0 := MC.c0
  have HB0 := Lib.hid hb0
  have HX0 := Lib.hid hbx
  have HC0 := Lib.hid MC
  clear hb0 MC hbx
  go_wp2_with fail
  refine (rFields_any m.kind _).mono ?_
  rintro e w1 ⟨A, c1, rfl, hA, hb⟩
  have HB1 := Lib.hid (Bl.step HB0.out hb)
  have HC1 := Lib.hid (HC0.out.below hb)
  have HX1 := Lib.hid ((hb.block w.heap.size HC0.out.lt).trans HX0.out)
  have HA1 := Lib.hid hA
  have c0' := HC1.out.c0
  clear hb hA HB0 HX0 HC0 c0
  obtain ⟨F, hF⟩ : ∃ F, F = fieldsOf m.kind := ⟨_, rfl⟩
  have hFl : F.length ≤ 6 := by rw [hF]; exact fieldsOf_len _
  rw [← hF] at HA1 ⊢
  have HFd := Lib.hid hF
  clear hF
  have hgw : w.heap.size < w1.heap.size := HC1.out.lt
  go_upto_region 3 with (refine wpList_store_row rfl 27 (.tmp 4) (.tmp 11) rfl w1.heap.size (Tryd.zeroCells27.setIfInBounds 0 (.int .i64 m.kind)) rfl rfl 27 _ (heap_alloc_new w1 _) (set_info _) (Array.size_setIfInBounds ..).symm (set_all _) ?_)
  rw [World.setRow_alloc_new, zero_set]
  have hba := (Below.refl w1.heap.size w1).alloc (Nat.le_refl _) (.cells (mcells (bareM m.kind)) 27)
  have MB : Hid (MBlk (w1.alloc (.cells (mcells (bareM m.kind)) 27)) w1.heap.size (bareM m.kind)) := Lib.hid ⟨heap_alloc_new _ _⟩
  have BW0 := Lib.hid hba
  clear hba c0'
  generalize w1.alloc (.cells (mcells (bareM m.kind)) 27) = w2 at *
  go_wp2_with fail
  go_loopg [5] F.length (fun kk i wr => ∃ j : Nat, i = .int .i64 (j : Int) ∧ Hid (j + kk = F.length ∧ j ≤ F.length ∧ (F.take j).all (okF m) = true) ∧ Hid (MBlk wr w1.heap.size ((F.take j).foldl (fun a f => setF a m f) (bareM m.kind))) ∧ Hid (Below w1.heap.size w1 wr))
  case atStart => exact ⟨0, rfl, ⟨Nat.zero_add _, Nat.zero_le _, rfl⟩, MB, BW0⟩
  case round =>
    clear MB BW0
    obtain ⟨j, rfl, hj, HM, BW⟩ := hrel
    obtain ⟨m0, hm0⟩ : ∃ x, x = (F.take j).foldl (fun a f => setF a m f) (bareM m.kind) := ⟨_, rfl⟩
    rw [← hm0] at HM
    have HMO := Lib.hid (show m0.Ok by rw [hm0]; exact fold_ok hm _ _ (bareM_ok hm.kind))
    have HL := Lib.hid HMO.out.body
    have HMZ := Lib.hid hm0
    clear hm0
    have MCr := Lib.hid (HC1.out.below BW.out)
    have HX := Lib.hid ((BW.out.block w.heap.size hgw).trans HX1.out)
    have HA := Lib.hid (HA1.out.mono BW.out)
    have hgl : w.heap.size < wr.drew.heap.size := MCr.out.lt
    by_cases hlt : j < F.length
    · obtain ⟨f, hf⟩ : ∃ f, F[j] = f := ⟨_, rfl⟩
      have hfr := fields_range (k := m.kind) (f := f) (by rw [← HFd.out, ← hf]; exact List.getElem_mem hlt)
      obtain ⟨ad, hAe, hcell⟩ := HA.out j (.int .i64 f) (by simp [iv, List.getElem?_eq_getElem hlt, hf])
      subst hAe
      have RF := Lib.hid (fun u => rField_any m hm f hfr u)
      rw [← HMC.out] at RF
      go_wp2_with fail
      rcases hfr with rfl | rfl | rfl | rfl | rfl | rfl | rfl
      · have HF1 := Lib.hid hf
        obtain ⟨ok, hok⟩ : ∃ ok, okF m 1 = ok := ⟨_, rfl⟩
        have HOK := Lib.hid hok
        clear hf hok
        cases ok with
        | false =>
          refine wp_region_seq (fun _ => False) [] [(0, true), (1, true), (2, true), (3, true), (4, true), (5, false), (6, true)] (by kernel_rfl) (by kernel_rfl) (fun _ _ d _ _ h => by cases d <;> exact h) rfl (by kernel_rfl) ?_
          have U : Up (fun _ => False) wr.drew (fun u => u.cell? (ad.add j) = some (.int .i64 1)) := Up.cell (by simpa using hcell) (fun h => h)
          have LR : ∀ u, Ex (fun _ => False) wr.drew u → (loadVar 27 ⟨w.heap.size, 0, none⟩).run Tryd.prog u = .ok (.agg mc) u := fun u hu => run_loadVar_row (P := Tryd.prog) u w.heap.size 27 27 mc (0, 0) _ ((hu.block w.heap.size hgl (fun h => h)).trans HX.out) Tryd.underlying27 rfl (infoMsg.trans (congrArg some HS.out.symm))
          refine seq_at (some 18) (v := .agg mc) rfl (by kernel_rfl) (by kernel_rfl) (fun u hu => by simp only [execOp, Instr.loadAt, Instr.sureAddr, Act.eval, Sem.run_bind, Sem.run_pure, Result.andThen_ok]; simp [LR u hu, asAddr]) ?_
          simp only [Act.put, List.setIfInBounds_toArray, List.set_cons_zero, List.set_cons_succ]
          refine seq_at (some 19) (v := ?_) rfl (by kernel_rfl) (by kernel_rfl) ?_ ?_
          rotate_left
          · intro w' hw'
            go_simp
            try with_reducible rfl
          simp only [Act.put, List.setIfInBounds_toArray, List.set_cons_zero, List.set_cons_succ]
          refine seq_at (some 20) (v := ?_) rfl (by kernel_rfl) (by kernel_rfl) ?_ ?_
          rotate_left
          · intro w' hw'
            go_simp
            try with_reducible rfl
          simp only [Act.put, List.setIfInBounds_toArray, List.set_cons_zero, List.set_cons_succ]
          refine seq_at (some 21) (v := ?_) rfl (by kernel_rfl) (by kernel_rfl) ?_ ?_
          rotate_left
          · intro w' hw'
            obtain q0 := U w' hw'
            go_simp
            try with_reducible rfl
          simp only [Act.put, List.setIfInBounds_toArray, List.set_cons_zero, List.set_cons_succ]
          refine seq_at (some 22) (v := ?_) rfl (by kernel_rfl) (by kernel_rfl) ?_ ?_
          rotate_left
          · intro w' hw'
            obtain q0 := U w' hw'
            go_simp
            try with_reducible rfl
          simp only [Act.put, List.setIfInBounds_toArray, List.set_cons_zero, List.set_cons_succ]
          refine seq_eff rfl (by kernel_rfl) (fun K hK => ?_)
          go_simp
          refine (RF.out _).mono ?_
          rintro e w5 ⟨rfl, hb5⟩
          rw [HOK.out]
          refine hK.out _ _ (.inl (Ex.below hb5)) ?_
          try simp only [Act.put, List.setIfInBounds_toArray, List.set_cons_zero, List.set_cons_succ]
          clear hK
          refine seq_at (some 24) (v := ?_) rfl (by kernel_rfl) (by kernel_rfl) ?_ ?_
          rotate_left
          · intro w' hw'
            go_simp
            try with_reducible rfl
          simp only [Act.put, List.setIfInBounds_toArray, List.set_cons_zero, List.set_cons_succ]
          refine seq_nil ?_
          have HR : Hid (refMayB m = false) := Lib.hid (by unfold refMayB; rw [← HFd.out, all_false hlt (by rw [HF1.out]; exact HOK.out)]; rfl)
          go_wp2_with fail
          go_ret
          exact ⟨by rw [HR.out]; rfl, HB1.out.trans ((BW.out.drew.trans (hb5.mono BW.out.size)).mono (Nat.le_of_lt hgw))⟩
        | true =>
          refine wp_region_seq (fun _ => False) [] [(0, true), (1, true), (2, true), (3, true), (4, true), (5, false), (6, true)] (by kernel_rfl) (by kernel_rfl) (fun _ _ d _ _ h => by cases d <;> exact h) rfl (by kernel_rfl) ?_
          have U : Up (fun _ => False) wr.drew (fun u => u.cell? (ad.add j) = some (.int .i64 1)) := Up.cell (by simpa using hcell) (fun h => h)
          have LR : ∀ u, Ex (fun _ => False) wr.drew u → (loadVar 27 ⟨w.heap.size, 0, none⟩).run Tryd.prog u = .ok (.agg mc) u := fun u hu => run_loadVar_row (P := Tryd.prog) u w.heap.size 27 27 mc (0, 0) _ ((hu.block w.heap.size hgl (fun h => h)).trans HX.out) Tryd.underlying27 rfl (infoMsg.trans (congrArg some HS.out.symm))
          refine seq_at (some 18) (v := .agg mc) rfl (by kernel_rfl) (by kernel_rfl) (fun u hu => by simp only [execOp, Instr.loadAt, Instr.sureAddr, Act.eval, Sem.run_bind, Sem.run_pure, Result.andThen_ok]; simp [LR u hu, asAddr]) ?_
          simp only [Act.put, List.setIfInBounds_toArray, List.set_cons_zero, List.set_cons_succ]
          refine seq_at (some 19) (v := ?_) rfl (by kernel_rfl) (by kernel_rfl) ?_ ?_
          rotate_left
          · intro w' hw'
            go_simp
            try with_reducible rfl
          simp only [Act.put, List.setIfInBounds_toArray, List.set_cons_zero, List.set_cons_succ]
          refine seq_at (some 20) (v := ?_) rfl (by kernel_rfl) (by kernel_rfl) ?_ ?_
          rotate_left
          · intro w' hw'
            go_simp
            try with_reducible rfl
          simp only [Act.put, List.setIfInBounds_toArray, List.set_cons_zero, List.set_cons_succ]
          refine seq_at (some 21) (v := ?_) rfl (by kernel_rfl) (by kernel_rfl) ?_ ?_
          rotate_left
          · intro w' hw'
            obtain q0 := U w' hw'
            go_simp
            try with_reducible rfl
          simp only [Act.put, List.setIfInBounds_toArray, List.set_cons_zero, List.set_cons_succ]
          refine seq_at (some 22) (v := ?_) rfl (by kernel_rfl) (by kernel_rfl) ?_ ?_
          rotate_left
          · intro w' hw'
            obtain q0 := U w' hw'
            go_simp
            try with_reducible rfl
          simp only [Act.put, List.setIfInBounds_toArray, List.set_cons_zero, List.set_cons_succ]
          refine seq_eff rfl (by kernel_rfl) (fun K hK => ?_)
          go_simp
          refine (RF.out _).mono ?_
          rintro e w5 ⟨rfl, hb5⟩
          rw [HOK.out]
          refine hK.out _ _ (.inl (Ex.below hb5)) ?_
          try simp only [Act.put, List.setIfInBounds_toArray, List.set_cons_zero, List.set_cons_succ]
          clear hK
          refine seq_at (some 24) (v := ?_) rfl (by kernel_rfl) (by kernel_rfl) ?_ ?_
          rotate_left
          · intro w' hw'
            go_simp
            try with_reducible rfl
          simp only [Act.put, List.setIfInBounds_toArray, List.set_cons_zero, List.set_cons_succ]
          refine seq_nil ?_
          have HB5 := Lib.hid (BW.out.drew.trans (hb5.mono BW.out.size))
          have hc5 := (hb5.cell (p := ad.add j) (World.block_lt_of_cell? wr.drew _ (by simpa using hcell))).trans (show wr.drew.cell? (ad.add j) = some (.int .i64 1) by simpa using hcell)
          have HM5 : Hid (MBlk w5 w1.heap.size m0) := Lib.hid ((show MBlk wr.drew w1.heap.size m0 from ⟨HM.out.blk⟩).move (grown_of_below hb5 none) (by simp))
          have HC5 : Hid (MCells w5 w.heap.size m) := Lib.hid (HC1.out.below HB5.out)
          clear hb5 hcell U LR
          have cf := HC5.out.c1
          have e1 := HM5.out.cell 1
          rw [(mcells_get m0).2.1] at e1
          have f1 := HM5.out.free 1
          go_wp2_with fail
          go_roundg (gk - 1)
          case measure => have := hj.out; omega
          case rel => exact ⟨j + 1, (by go_num), ⟨(by have := hj.out; omega), (by omega), all_snoc hlt hj.out.2.2 (by rw [HF1.out]; exact HOK.out)⟩, (by rw [fold_snoc hlt, HF1.out, ← HMZ.out]; exact HM5.out.set (mset1 m0 m.page)), HB5.out.setCell (Nat.le_refl _) _⟩
      · have HF1 := Lib.hid hf
        obtain ⟨ok, hok⟩ : ∃ ok, okF m 2 = ok := ⟨_, rfl⟩
        have HOK := Lib.hid hok
        clear hf hok
        cases ok with
        | false =>
          refine wp_region_seq (fun _ => False) [] [(0, true), (1, true), (2, true), (3, true), (4, true), (5, false), (6, true)] (by kernel_rfl) (by kernel_rfl) (fun _ _ d _ _ h => by cases d <;> exact h) rfl (by kernel_rfl) ?_
          have U : Up (fun _ => False) wr.drew (fun u => u.cell? (ad.add j) = some (.int .i64 2)) := Up.cell (by simpa using hcell) (fun h => h)
          have LR : ∀ u, Ex (fun _ => False) wr.drew u → (loadVar 27 ⟨w.heap.size, 0, none⟩).run Tryd.prog u = .ok (.agg mc) u := fun u hu => run_loadVar_row (P := Tryd.prog) u w.heap.size 27 27 mc (0, 0) _ ((hu.block w.heap.size hgl (fun h => h)).trans HX.out) Tryd.underlying27 rfl (infoMsg.trans (congrArg some HS.out.symm))
          refine seq_at (some 18) (v := .agg mc) rfl (by kernel_rfl) (by kernel_rfl) (fun u hu => by simp only [execOp, Instr.loadAt, Instr.sureAddr, Act.eval, Sem.run_bind, Sem.run_pure, Result.andThen_ok]; simp [LR u hu, asAddr]) ?_
          simp only [Act.put, List.setIfInBounds_toArray, List.set_cons_zero, List.set_cons_succ]
          refine seq_at (some 19) (v := ?_) rfl (by kernel_rfl) (by kernel_rfl) ?_ ?_
          rotate_left
          · intro w' hw'
            go_simp
            try with_reducible rfl
          simp only [Act.put, List.setIfInBounds_toArray, List.set_cons_zero, List.set_cons_succ]
          refine seq_at (some 20) (v := ?_) rfl (by kernel_rfl) (by kernel_rfl) ?_ ?_
          rotate_left
          · intro w' hw'
            go_simp
            try with_reducible rfl
          simp only [Act.put, List.setIfInBounds_toArray, List.set_cons_zero, List.set_cons_succ]
          refine seq_at (some 21) (v := ?_) rfl (by kernel_rfl) (by kernel_rfl) ?_ ?_
          rotate_left
          · intro w' hw'
            obtain q0 := U w' hw'
            go_simp
            try with_reducible rfl
          simp only [Act.put, List.setIfInBounds_toArray, List.set_cons_zero, List.set_cons_succ]
          refine seq_at (some 22) (v := ?_) rfl (by kernel_rfl) (by kernel_rfl) ?_ ?_
          rotate_left
          · intro w' hw'
            obtain q0 := U w' hw'
            go_simp
            try with_reducible rfl
          simp only [Act.put, List.setIfInBounds_toArray, List.set_cons_zero, List.set_cons_succ]
          refine seq_eff rfl (by kernel_rfl) (fun K hK => ?_)
          go_simp
          refine (RF.out _).mono ?_
          rintro e w5 ⟨rfl, hb5⟩
          rw [HOK.out]
          refine hK.out _ _ (.inl (Ex.below hb5)) ?_
          try simp only [Act.put, List.setIfInBounds_toArray, List.set_cons_zero, List.set_cons_succ]
          clear hK
          refine seq_at (some 24) (v := ?_) rfl (by kernel_rfl) (by kernel_rfl) ?_ ?_
          rotate_left
          · intro w' hw'
            go_simp
            try with_reducible rfl
          simp only [Act.put, List.setIfInBounds_toArray, List.set_cons_zero, List.set_cons_succ]
          refine seq_nil ?_
          have HR : Hid (refMayB m = false) := Lib.hid (by unfold refMayB; rw [← HFd.out, all_false hlt (by rw [HF1.out]; exact HOK.out)]; rfl)
          go_wp2_with fail
          go_ret
          exact ⟨by rw [HR.out]; rfl, HB1.out.trans ((BW.out.drew.trans (hb5.mono BW.out.size)).mono (Nat.le_of_lt hgw))⟩
        | true =>
          refine wp_region_seq (fun _ => False) [] [(0, true), (1, true), (2, true), (3, true), (4, true), (5, false), (6, true)] (by kernel_rfl) (by kernel_rfl) (fun _ _ d _ _ h => by cases d <;> exact h) rfl (by kernel_rfl) ?_
          have U : Up (fun _ => False) wr.drew (fun u => u.cell? (ad.add j) = some (.int .i64 2)) := Up.cell (by simpa using hcell) (fun h => h)
          have LR : ∀ u, Ex (fun _ => False) wr.drew u → (loadVar 27 ⟨w.heap.size, 0, none⟩).run Tryd.prog u = .ok (.agg mc) u := fun u hu => run_loadVar_row (P := Tryd.prog) u w.heap.size 27 27 mc (0, 0) _ ((hu.block w.heap.size hgl (fun h => h)).trans HX.out) Tryd.underlying27 rfl (infoMsg.trans (congrArg some HS.out.symm))
          refine seq_at (some 18) (v := .agg mc) rfl (by kernel_rfl) (by kernel_rfl) (fun u hu => by simp only [execOp, Instr.loadAt, Instr.sureAddr, Act.eval, Sem.run_bind, Sem.run_pure, Result.andThen_ok]; simp [LR u hu, asAddr]) ?_
          simp only [Act.put, List.setIfInBounds_toArray, List.set_cons_zero, List.set_cons_succ]
          refine seq_at (some 19) (v := ?_) rfl (by kernel_rfl) (by kernel_rfl) ?_ ?_
          rotate_left
          · intro w' hw'
            go_simp
            try with_reducible rfl
          simp only [Act.put, List.setIfInBounds_toArray, List.set_cons_zero, List.set_cons_succ]
          refine seq_at (some 20) (v := ?_) rfl (by kernel_rfl) (by kernel_rfl) ?_ ?_
          rotate_left
          · intro w' hw'
            go_simp
            try with_reducible rfl
          simp only [Act.put, List.setIfInBounds_toArray, List.set_cons_zero, List.set_cons_succ]
          refine seq_at (some 21) (v := ?_) rfl (by kernel_rfl) (by kernel_rfl) ?_ ?_
          rotate_left
          · intro w' hw'
            obtain q0 := U w' hw'
            go_simp
            try with_reducible rfl
          simp only [Act.put, List.setIfInBounds_toArray, List.set_cons_zero, List.set_cons_succ]
          refine seq_at (some 22) (v := ?_) rfl (by kernel_rfl) (by kernel_rfl) ?_ ?_
          rotate_left
          · intro w' hw'
            obtain q0 := U w' hw'
            go_simp
            try with_reducible rfl
          simp only [Act.put, List.setIfInBounds_toArray, List.set_cons_zero, List.set_cons_succ]
          refine seq_eff rfl (by kernel_rfl) (fun K hK => ?_)
          go_simp
          refine (RF.out _).mono ?_
          rintro e w5 ⟨rfl, hb5⟩
          rw [HOK.out]
          refine hK.out _ _ (.inl (Ex.below hb5)) ?_
          try simp only [Act.put, List.setIfInBounds_toArray, List.set_cons_zero, List.set_cons_succ]
          clear hK
          refine seq_at (some 24) (v := ?_) rfl (by kernel_rfl) (by kernel_rfl) ?_ ?_
          rotate_left
          · intro w' hw'
            go_simp
            try with_reducible rfl
          simp only [Act.put, List.setIfInBounds_toArray, List.set_cons_zero, List.set_cons_succ]
          refine seq_nil ?_
          have HB5 := Lib.hid (BW.out.drew.trans (hb5.mono BW.out.size))
          have hc5 := (hb5.cell (p := ad.add j) (World.block_lt_of_cell? wr.drew _ (by simpa using hcell))).trans (show wr.drew.cell? (ad.add j) = some (.int .i64 2) by simpa using hcell)
          have HM5 : Hid (MBlk w5 w1.heap.size m0) := Lib.hid ((show MBlk wr.drew w1.heap.size m0 from ⟨HM.out.blk⟩).move (grown_of_below hb5 none) (by simp))
          have HC5 : Hid (MCells w5 w.heap.size m) := Lib.hid (HC1.out.below HB5.out)
          clear hb5 hcell U LR
          have cf := HC5.out.c2
          have e1 := HM5.out.cell 2
          rw [(mcells_get m0).2.2.1] at e1
          have f1 := HM5.out.free 2
          go_wp2_with fail
          go_roundg (gk - 1)
          case measure => have := hj.out; omega
          case rel => exact ⟨j + 1, (by go_num), ⟨(by have := hj.out; omega), (by omega), all_snoc hlt hj.out.2.2 (by rw [HF1.out]; exact HOK.out)⟩, (by rw [fold_snoc hlt, HF1.out, ← HMZ.out]; exact HM5.out.set (mset2 m0 m.op)), HB5.out.setCell (Nat.le_refl _) _⟩
      · have HF1 := Lib.hid hf
        obtain ⟨ok, hok⟩ : ∃ ok, okF m 3 = ok := ⟨_, rfl⟩
        have HOK := Lib.hid hok
        clear hf hok
        cases ok with
        | false =>
          refine wp_region_seq (fun _ => False) [] [(0, true), (1, true), (2, true), (3, true), (4, true), (5, false), (6, true)] (by kernel_rfl) (by kernel_rfl) (fun _ _ d _ _ h => by cases d <;> exact h) rfl (by kernel_rfl) ?_
          have U : Up (fun _ => False) wr.drew (fun u => u.cell? (ad.add j) = some (.int .i64 3)) := Up.cell (by simpa using hcell) (fun h => h)
          have LR : ∀ u, Ex (fun _ => False) wr.drew u → (loadVar 27 ⟨w.heap.size, 0, none⟩).run Tryd.prog u = .ok (.agg mc) u := fun u hu => run_loadVar_row (P := Tryd.prog) u w.heap.size 27 27 mc (0, 0) _ ((hu.block w.heap.size hgl (fun h => h)).trans HX.out) Tryd.underlying27 rfl (infoMsg.trans (congrArg some HS.out.symm))
          refine seq_at (some 18) (v := .agg mc) rfl (by kernel_rfl) (by kernel_rfl) (fun u hu => by simp only [execOp, Instr.loadAt, Instr.sureAddr, Act.eval, Sem.run_bind, Sem.run_pure, Result.andThen_ok]; simp [LR u hu, asAddr]) ?_
          simp only [Act.put, List.setIfInBounds_toArray, List.set_cons_zero, List.set_cons_succ]
          refine seq_at (some 19) (v := ?_) rfl (by kernel_rfl) (by kernel_rfl) ?_ ?_
          rotate_left
          · intro w' hw'
            go_simp
            try with_reducible rfl
          simp only [Act.put, List.setIfInBounds_toArray, List.set_cons_zero, List.set_cons_succ]
          refine seq_at (some 20) (v := ?_) rfl (by kernel_rfl) (by kernel_rfl) ?_ ?_
          rotate_left
          · intro w' hw'
            go_simp
            try with_reducible rfl
          simp only [Act.put, List.setIfInBounds_toArray, List.set_cons_zero, List.set_cons_succ]
          refine seq_at (some 21) (v := ?_) rfl (by kernel_rfl) (by kernel_rfl) ?_ ?_
          rotate_left
          · intro w' hw'
            obtain q0 := U w' hw'
            go_simp
            try with_reducible rfl
          simp only [Act.put, List.setIfInBounds_toArray, List.set_cons_zero, List.set_cons_succ]
          refine seq_at (some 22) (v := ?_) rfl (by kernel_rfl) (by kernel_rfl) ?_ ?_
          rotate_left
          · intro w' hw'
            obtain q0 := U w' hw'
            go_simp
            try with_reducible rfl
          simp only [Act.put, List.setIfInBounds_toArray, List.set_cons_zero, List.set_cons_succ]
          refine seq_eff rfl (by kernel_rfl) (fun K hK => ?_)
          go_simp
          refine (RF.out _).mono ?_
          rintro e w5 ⟨rfl, hb5⟩
          rw [HOK.out]
          refine hK.out _ _ (.inl (Ex.below hb5)) ?_
          try simp only [Act.put, List.setIfInBounds_toArray, List.set_cons_zero, List.set_cons_succ]
          clear hK
          refine seq_at (some 24) (v := ?_) rfl (by kernel_rfl) (by kernel_rfl) ?_ ?_
          rotate_left
          · intro w' hw'
            go_simp
            try with_reducible rfl
          simp only [Act.put, List.setIfInBounds_toArray, List.set_cons_zero, List.set_cons_succ]
          refine seq_nil ?_
          have HR : Hid (refMayB m = false) := Lib.hid (by unfold refMayB; rw [← HFd.out, all_false hlt (by rw [HF1.out]; exact HOK.out)]; rfl)
          go_wp2_with fail
          go_ret
          exact ⟨by rw [HR.out]; rfl, HB1.out.trans ((BW.out.drew.trans (hb5.mono BW.out.size)).mono (Nat.le_of_lt hgw))⟩
        | true =>
          refine wp_region_seq (fun _ => False) [] [(0, true), (1, true), (2, true), (3, true), (4, true), (5, false), (6, true)] (by kernel_rfl) (by kernel_rfl) (fun _ _ d _ _ h => by cases d <;> exact h) rfl (by kernel_rfl) ?_
          have U : Up (fun _ => False) wr.drew (fun u => u.cell? (ad.add j) = some (.int .i64 3)) := Up.cell (by simpa using hcell) (fun h => h)
          have LR : ∀ u, Ex (fun _ => False) wr.drew u → (loadVar 27 ⟨w.heap.size, 0, none⟩).run Tryd.prog u = .ok (.agg mc) u := fun u hu => run_loadVar_row (P := Tryd.prog) u w.heap.size 27 27 mc (0, 0) _ ((hu.block w.heap.size hgl (fun h => h)).trans HX.out) Tryd.underlying27 rfl (infoMsg.trans (congrArg some HS.out.symm))
          refine seq_at (some 18) (v := .agg mc) rfl (by kernel_rfl) (by kernel_rfl) (fun u hu => by simp only [execOp, Instr.loadAt, Instr.sureAddr, Act.eval, Sem.run_bind, Sem.run_pure, Result.andThen_ok]; simp [LR u hu, asAddr]) ?_
          simp only [Act.put, List.setIfInBounds_toArray, List.set_cons_zero, List.set_cons_succ]
          refine seq_at (some 19) (v := ?_) rfl (by kernel_rfl) (by kernel_rfl) ?_ ?_
          rotate_left
          · intro w' hw'
            go_simp
            try with_reducible rfl
          simp only [Act.put, List.setIfInBounds_toArray, List.set_cons_zero, List.set_cons_succ]
          refine seq_at (some 20) (v := ?_) rfl (by kernel_rfl) (by kernel_rfl) ?_ ?_
          rotate_left
          · intro w' hw'
            go_simp
            try with_reducible rfl
          simp only [Act.put, List.setIfInBounds_toArray, List.set_cons_zero, List.set_cons_succ]
          refine seq_at (some 21) (v := ?_) rfl (by kernel_rfl) (by kernel_rfl) ?_ ?_
          rotate_left
          · intro w' hw'
            obtain q0 := U w' hw'
            go_simp
            try with_reducible rfl
          simp only [Act.put, List.setIfInBounds_toArray, List.set_cons_zero, List.set_cons_succ]
          refine seq_at (some 22) (v := ?_) rfl (by kernel_rfl) (by kernel_rfl) ?_ ?_
          rotate_left
          · intro w' hw'
            obtain q0 := U w' hw'
            go_simp
            try with_reducible rfl
          simp only [Act.put, List.setIfInBounds_toArray, List.set_cons_zero, List.set_cons_succ]
          refine seq_eff rfl (by kernel_rfl) (fun K hK => ?_)
          go_simp
          refine (RF.out _).mono ?_
          rintro e w5 ⟨rfl, hb5⟩
          rw [HOK.out]
          refine hK.out _ _ (.inl (Ex.below hb5)) ?_
          try simp only [Act.put, List.setIfInBounds_toArray, List.set_cons_zero, List.set_cons_succ]
          clear hK
          refine seq_at (some 24) (v := ?_) rfl (by kernel_rfl) (by kernel_rfl) ?_ ?_
          rotate_left
          · intro w' hw'
            go_simp
            try with_reducible rfl
          simp only [Act.put, List.setIfInBounds_toArray, List.set_cons_zero, List.set_cons_succ]
          refine seq_nil ?_
          have HB5 := Lib.hid (BW.out.drew.trans (hb5.mono BW.out.size))
          have hc5 := (hb5.cell (p := ad.add j) (World.block_lt_of_cell? wr.drew _ (by simpa using hcell))).trans (show wr.drew.cell? (ad.add j) = some (.int .i64 3) by simpa using hcell)
          have HM5 : Hid (MBlk w5 w1.heap.size m0) := Lib.hid ((show MBlk wr.drew w1.heap.size m0 from ⟨HM.out.blk⟩).move (grown_of_below hb5 none) (by simp))
          have HC5 : Hid (MCells w5 w.heap.size m) := Lib.hid (HC1.out.below HB5.out)
          clear hb5 hcell U LR
          have cf := HC5.out.c3
          have e1 := HM5.out.cell 3
          rw [(mcells_get m0).2.2.2.1] at e1
          have f1 := HM5.out.free 3
          go_wp2_with fail
          go_roundg (gk - 1)
          case measure => have := hj.out; omega
          case rel => exact ⟨j + 1, (by go_num), ⟨(by have := hj.out; omega), (by omega), all_snoc hlt hj.out.2.2 (by rw [HF1.out]; exact HOK.out)⟩, (by rw [fold_snoc hlt, HF1.out, ← HMZ.out]; exact HM5.out.set (mset3 m0 m.mode)), HB5.out.setCell (Nat.le_refl _) _⟩
      · have HF1 := Lib.hid hf
        obtain ⟨ok, hok⟩ : ∃ ok, okF m 4 = ok := ⟨_, rfl⟩
        have HOK := Lib.hid hok
        clear hf hok
        cases ok with
        | false =>
          refine wp_region_seq (fun _ => False) [] [(0, true), (1, true), (2, true), (3, true), (4, true), (5, false), (6, true)] (by kernel_rfl) (by kernel_rfl) (fun _ _ d _ _ h => by cases d <;> exact h) rfl (by kernel_rfl) ?_
          have U : Up (fun _ => False) wr.drew (fun u => u.cell? (ad.add j) = some (.int .i64 4)) := Up.cell (by simpa using hcell) (fun h => h)
          have LR : ∀ u, Ex (fun _ => False) wr.drew u → (loadVar 27 ⟨w.heap.size, 0, none⟩).run Tryd.prog u = .ok (.agg mc) u := fun u hu => run_loadVar_row (P := Tryd.prog) u w.heap.size 27 27 mc (0, 0) _ ((hu.block w.heap.size hgl (fun h => h)).trans HX.out) Tryd.underlying27 rfl (infoMsg.trans (congrArg some HS.out.symm))
          refine seq_at (some 18) (v := .agg mc) rfl (by kernel_rfl) (by kernel_rfl) (fun u hu => by simp only [execOp, Instr.loadAt, Instr.sureAddr, Act.eval, Sem.run_bind, Sem.run_pure, Result.andThen_ok]; simp [LR u hu, asAddr]) ?_
          simp only [Act.put, List.setIfInBounds_toArray, List.set_cons_zero, List.set_cons_succ]
          refine seq_at (some 19) (v := ?_) rfl (by kernel_rfl) (by kernel_rfl) ?_ ?_
          rotate_left
          · intro w' hw'
            go_simp
            try with_reducible rfl
          simp only [Act.put, List.setIfInBounds_toArray, List.set_cons_zero, List.set_cons_succ]
          refine seq_at (some 20) (v := ?_) rfl (by kernel_rfl) (by kernel_rfl) ?_ ?_
          rotate_left
          · intro w' hw'
            go_simp
            try with_reducible rfl
          simp only [Act.put, List.setIfInBounds_toArray, List.set_cons_zero, List.set_cons_succ]
          refine seq_at (some 21) (v := ?_) rfl (by kernel_rfl) (by kernel_rfl) ?_ ?_
          rotate_left
          · intro w' hw'
            obtain q0 := U w' hw'
            go_simp
            try with_reducible rfl
          simp only [Act.put, List.setIfInBounds_toArray, List.set_cons_zero, List.set_cons_succ]
          refine seq_at (some 22) (v := ?_) rfl (by kernel_rfl) (by kernel_rfl) ?_ ?_
          rotate_left
          · intro w' hw'
            obtain q0 := U w' hw'
            go_simp
            try with_reducible rfl
          simp only [Act.put, List.setIfInBounds_toArray, List.set_cons_zero, List.set_cons_succ]
          refine seq_eff rfl (by kernel_rfl) (fun K hK => ?_)
          go_simp
          refine (RF.out _).mono ?_
          rintro e w5 ⟨rfl, hb5⟩
          rw [HOK.out]
          refine hK.out _ _ (.inl (Ex.below hb5)) ?_
          try simp only [Act.put, List.setIfInBounds_toArray, List.set_cons_zero, List.set_cons_succ]
          clear hK
          refine seq_at (some 24) (v := ?_) rfl (by kernel_rfl) (by kernel_rfl) ?_ ?_
          rotate_left
          · intro w' hw'
            go_simp
            try with_reducible rfl
          simp only [Act.put, List.setIfInBounds_toArray, List.set_cons_zero, List.set_cons_succ]
          refine seq_nil ?_
          have HR : Hid (refMayB m = false) := Lib.hid (by unfold refMayB; rw [← HFd.out, all_false hlt (by rw [HF1.out]; exact HOK.out)]; rfl)
          go_wp2_with fail
          go_ret
          exact ⟨by rw [HR.out]; rfl, HB1.out.trans ((BW.out.drew.trans (hb5.mono BW.out.size)).mono (Nat.le_of_lt hgw))⟩
        | true =>
          refine wp_region_seq (fun _ => False) [] [(0, true), (1, true), (2, true), (3, true), (4, true), (5, false), (6, true)] (by kernel_rfl) (by kernel_rfl) (fun _ _ d _ _ h => by cases d <;> exact h) rfl (by kernel_rfl) ?_
          have U : Up (fun _ => False) wr.drew (fun u => u.cell? (ad.add j) = some (.int .i64 4)) := Up.cell (by simpa using hcell) (fun h => h)
          have LR : ∀ u, Ex (fun _ => False) wr.drew u → (loadVar 27 ⟨w.heap.size, 0, none⟩).run Tryd.prog u = .ok (.agg mc) u := fun u hu => run_loadVar_row (P := Tryd.prog) u w.heap.size 27 27 mc (0, 0) _ ((hu.block w.heap.size hgl (fun h => h)).trans HX.out) Tryd.underlying27 rfl (infoMsg.trans (congrArg some HS.out.symm))
          refine seq_at (some 18) (v := .agg mc) rfl (by kernel_rfl) (by kernel_rfl) (fun u hu => by simp only [execOp, Instr.loadAt, Instr.sureAddr, Act.eval, Sem.run_bind, Sem.run_pure, Result.andThen_ok]; simp [LR u hu, asAddr]) ?_
          simp only [Act.put, List.setIfInBounds_toArray, List.set_cons_zero, List.set_cons_succ]
          refine seq_at (some 19) (v := ?_) rfl (by kernel_rfl) (by kernel_rfl) ?_ ?_
          rotate_left
          · intro w' hw'
            go_simp
            try with_reducible rfl
          simp only [Act.put, List.setIfInBounds_toArray, List.set_cons_zero, List.set_cons_succ]
          refine seq_at (some 20) (v := ?_) rfl (by kernel_rfl) (by kernel_rfl) ?_ ?_
          rotate_left
          · intro w' hw'
            go_simp
            try with_reducible rfl
          simp only [Act.put, List.setIfInBounds_toArray, List.set_cons_zero, List.set_cons_succ]
          refine seq_at (some 21) (v := ?_) rfl (by kernel_rfl) (by kernel_rfl) ?_ ?_
          rotate_left
          · intro w' hw'
            obtain q0 := U w' hw'
            go_simp
            try with_reducible rfl
          simp only [Act.put, List.setIfInBounds_toArray, List.set_cons_zero, List.set_cons_succ]
          refine seq_at (some 22) (v := ?_) rfl (by kernel_rfl) (by kernel_rfl) ?_ ?_
          rotate_left
          · intro w' hw'
            obtain q0 := U w' hw'
            go_simp
            try with_reducible rfl
          simp only [Act.put, List.setIfInBounds_toArray, List.set_cons_zero, List.set_cons_succ]
          refine seq_eff rfl (by kernel_rfl) (fun K hK => ?_)
          go_simp
          refine (RF.out _).mono ?_
          rintro e w5 ⟨rfl, hb5⟩
          rw [HOK.out]
          refine hK.out _ _ (.inl (Ex.below hb5)) ?_
          try simp only [Act.put, List.setIfInBounds_toArray, List.set_cons_zero, List.set_cons_succ]
          clear hK
          refine seq_at (some 24) (v := ?_) rfl (by kernel_rfl) (by kernel_rfl) ?_ ?_
          rotate_left
          · intro w' hw'
            go_simp
            try with_reducible rfl
          simp only [Act.put, List.setIfInBounds_toArray, List.set_cons_zero, List.set_cons_succ]
          refine seq_nil ?_
          have HB5 := Lib.hid (BW.out.drew.trans (hb5.mono BW.out.size))
          have hc5 := (hb5.cell (p := ad.add j) (World.block_lt_of_cell? wr.drew _ (by simpa using hcell))).trans (show wr.drew.cell? (ad.add j) = some (.int .i64 4) by simpa using hcell)
          have HM5 : Hid (MBlk w5 w1.heap.size m0) := Lib.hid ((show MBlk wr.drew w1.heap.size m0 from ⟨HM.out.blk⟩).move (grown_of_below hb5 none) (by simp))
          have HC5 : Hid (MCells w5 w.heap.size m) := Lib.hid (HC1.out.below HB5.out)
          clear hb5 hcell U LR
          have cf := HC5.out.c4
          have e1 := HM5.out.cell 4
          rw [(mcells_get m0).2.2.2.2.1] at e1
          have f1 := HM5.out.free 4
          go_wp2_with fail
          go_roundg (gk - 1)
          case measure => have := hj.out; omega
          case rel => exact ⟨j + 1, (by go_num), ⟨(by have := hj.out; omega), (by omega), all_snoc hlt hj.out.2.2 (by rw [HF1.out]; exact HOK.out)⟩, (by rw [fold_snoc hlt, HF1.out, ← HMZ.out]; exact HM5.out.set (mset4 m0 m.dest)), HB5.out.setCell (Nat.le_refl _) _⟩
      · have HF1 := Lib.hid hf
        obtain ⟨ok, hok⟩ : ∃ ok, okF m 5 = ok := ⟨_, rfl⟩
        have HOK := Lib.hid hok
        clear hf hok
        cases ok with
        | false =>
          refine wp_region_seq (fun _ => False) [] [(0, true), (1, true), (2, true), (3, true), (4, true), (5, false), (6, true)] (by kernel_rfl) (by kernel_rfl) (fun _ _ d _ _ h => by cases d <;> exact h) rfl (by kernel_rfl) ?_
          have U : Up (fun _ => False) wr.drew (fun u => u.cell? (ad.add j) = some (.int .i64 5)) := Up.cell (by simpa using hcell) (fun h => h)
          have LR : ∀ u, Ex (fun _ => False) wr.drew u → (loadVar 27 ⟨w.heap.size, 0, none⟩).run Tryd.prog u = .ok (.agg mc) u := fun u hu => run_loadVar_row (P := Tryd.prog) u w.heap.size 27 27 mc (0, 0) _ ((hu.block w.heap.size hgl (fun h => h)).trans HX.out) Tryd.underlying27 rfl (infoMsg.trans (congrArg some HS.out.symm))
          refine seq_at (some 18) (v := .agg mc) rfl (by kernel_rfl) (by kernel_rfl) (fun u hu => by simp only [execOp, Instr.loadAt, Instr.sureAddr, Act.eval, Sem.run_bind, Sem.run_pure, Result.andThen_ok]; simp [LR u hu, asAddr]) ?_
          simp only [Act.put, List.setIfInBounds_toArray, List.set_cons_zero, List.set_cons_succ]
          refine seq_at (some 19) (v := ?_) rfl (by kernel_rfl) (by kernel_rfl) ?_ ?_
          rotate_left
          · intro w' hw'
            go_simp
            try with_reducible rfl
          simp only [Act.put, List.setIfInBounds_toArray, List.set_cons_zero, List.set_cons_succ]
          refine seq_at (some 20) (v := ?_) rfl (by kernel_rfl) (by kernel_rfl) ?_ ?_
          rotate_left
          · intro w' hw'
            go_simp
            try with_reducible rfl
          simp only [Act.put, List.setIfInBounds_toArray, List.set_cons_zero, List.set_cons_succ]
          refine seq_at (some 21) (v := ?_) rfl (by kernel_rfl) (by kernel_rfl) ?_ ?_
          rotate_left
          · intro w' hw'
            obtain q0 := U w' hw'
            go_simp
            try with_reducible rfl
          simp only [Act.put, List.setIfInBounds_toArray, List.set_cons_zero, List.set_cons_succ]
          refine seq_at (some 22) (v := ?_) rfl (by kernel_rfl) (by kernel_rfl) ?_ ?_
          rotate_left
          · intro w' hw'
            obtain q0 := U w' hw'
            go_simp
            try with_reducible rfl
          simp only [Act.put, List.setIfInBounds_toArray, List.set_cons_zero, List.set_cons_succ]
          refine seq_eff rfl (by kernel_rfl) (fun K hK => ?_)
          go_simp
          refine (RF.out _).mono ?_
          rintro e w5 ⟨rfl, hb5⟩
          rw [HOK.out]
          refine hK.out _ _ (.inl (Ex.below hb5)) ?_
          try simp only [Act.put, List.setIfInBounds_toArray, List.set_cons_zero, List.set_cons_succ]
          clear hK
          refine seq_at (some 24) (v := ?_) rfl (by kernel_rfl) (by kernel_rfl) ?_ ?_
          rotate_left
          · intro w' hw'
            go_simp
            try with_reducible rfl
          simp only [Act.put, List.setIfInBounds_toArray, List.set_cons_zero, List.set_cons_succ]
          refine seq_nil ?_
          have HR : Hid (refMayB m = false) := Lib.hid (by unfold refMayB; rw [← HFd.out, all_false hlt (by rw [HF1.out]; exact HOK.out)]; rfl)
          go_wp2_with fail
          go_ret
          exact ⟨by rw [HR.out]; rfl, HB1.out.trans ((BW.out.drew.trans (hb5.mono BW.out.size)).mono (Nat.le_of_lt hgw))⟩
        | true =>
          refine wp_region_seq (fun _ => False) [] [(0, true), (1, true), (2, true), (3, true), (4, true), (5, false), (6, true)] (by kernel_rfl) (by kernel_rfl) (fun _ _ d _ _ h => by cases d <;> exact h) rfl (by kernel_rfl) ?_
          have U : Up (fun _ => False) wr.drew (fun u => u.cell? (ad.add j) = some (.int .i64 5)) := Up.cell (by simpa using hcell) (fun h => h)
          have LR : ∀ u, Ex (fun _ => False) wr.drew u → (loadVar 27 ⟨w.heap.size, 0, none⟩).run Tryd.prog u = .ok (.agg mc) u := fun u hu => run_loadVar_row (P := Tryd.prog) u w.heap.size 27 27 mc (0, 0) _ ((hu.block w.heap.size hgl (fun h => h)).trans HX.out) Tryd.underlying27 rfl (infoMsg.trans (congrArg some HS.out.symm))
          refine seq_at (some 18) (v := .agg mc) rfl (by kernel_rfl) (by kernel_rfl) (fun u hu => by simp only [execOp, Instr.loadAt, Instr.sureAddr, Act.eval, Sem.run_bind, Sem.run_pure, Result.andThen_ok]; simp [LR u hu, asAddr]) ?_
          simp only [Act.put, List.setIfInBounds_toArray, List.set_cons_zero, List.set_cons_succ]
          refine seq_at (some 19) (v := ?_) rfl (by kernel_rfl) (by kernel_rfl) ?_ ?_
          rotate_left
          · intro w' hw'
            go_simp
            try with_reducible rfl
          simp only [Act.put, List.setIfInBounds_toArray, List.set_cons_zero, List.set_cons_succ]
          refine seq_at (some 20) (v := ?_) rfl (by kernel_rfl) (by kernel_rfl) ?_ ?_
          rotate_left
          · intro w' hw'
            go_simp
            try with_reducible rfl
          simp only [Act.put, List.setIfInBounds_toArray, List.set_cons_zero, List.set_cons_succ]
          refine seq_at (some 21) (v := ?_) rfl (by kernel_rfl) (by kernel_rfl) ?_ ?_
          rotate_left
          · intro w' hw'
            obtain q0 := U w' hw'
            go_simp
            try with_reducible rfl
          simp only [Act.put, List.setIfInBounds_toArray, List.set_cons_zero, List.set_cons_succ]
          refine seq_at (some 22) (v := ?_) rfl (by kernel_rfl) (by kernel_rfl) ?_ ?_
          rotate_left
          · intro w' hw'
            obtain q0 := U w' hw'
            go_simp
            try with_reducible rfl
          simp only [Act.put, List.setIfInBounds_toArray, List.set_cons_zero, List.set_cons_succ]
          refine seq_eff rfl (by kernel_rfl) (fun K hK => ?_)
          go_simp
          refine (RF.out _).mono ?_
          rintro e w5 ⟨rfl, hb5⟩
          rw [HOK.out]
          refine hK.out _ _ (.inl (Ex.below hb5)) ?_
          try simp only [Act.put, List.setIfInBounds_toArray, List.set_cons_zero, List.set_cons_succ]
          clear hK
          refine seq_at (some 24) (v := ?_) rfl (by kernel_rfl) (by kernel_rfl) ?_ ?_
          rotate_left
          · intro w' hw'
            go_simp
            try with_reducible rfl
          simp only [Act.put, List.setIfInBounds_toArray, List.set_cons_zero, List.set_cons_succ]
          refine seq_nil ?_
          have HB5 := Lib.hid (BW.out.drew.trans (hb5.mono BW.out.size))
          have hc5 := (hb5.cell (p := ad.add j) (World.block_lt_of_cell? wr.drew _ (by simpa using hcell))).trans (show wr.drew.cell? (ad.add j) = some (.int .i64 5) by simpa using hcell)
          have HM5 : Hid (MBlk w5 w1.heap.size m0) := Lib.hid ((show MBlk wr.drew w1.heap.size m0 from ⟨HM.out.blk⟩).move (grown_of_below hb5 none) (by simp))
          have HC5 : Hid (MCells w5 w.heap.size m) := Lib.hid (HC1.out.below HB5.out)
          clear hb5 hcell U LR
          have cf := HC5.out.c5
          have e1 := HM5.out.cell 5
          rw [(mcells_get m0).2.2.2.2.2.1] at e1
          have f1 := HM5.out.free 5
          go_wp2_with fail
          go_roundg (gk - 1)
          case measure => have := hj.out; omega
          case rel => exact ⟨j + 1, (by go_num), ⟨(by have := hj.out; omega), (by omega), all_snoc hlt hj.out.2.2 (by rw [HF1.out]; exact HOK.out)⟩, (by rw [fold_snoc hlt, HF1.out, ← HMZ.out]; exact HM5.out.set (mset5 m0 m.psn)), HB5.out.setCell (Nat.le_refl _) _⟩
      · have HF1 := Lib.hid hf
        obtain ⟨ok, hok⟩ : ∃ ok, okF m 6 = ok := ⟨_, rfl⟩
        have HOK := Lib.hid hok
        clear hf hok
        cases ok with
        | false =>
          refine wp_region_seq (fun _ => False) [] [(0, true), (1, true), (2, true), (3, true), (4, true), (5, false), (6, true)] (by kernel_rfl) (by kernel_rfl) (fun _ _ d _ _ h => by cases d <;> exact h) rfl (by kernel_rfl) ?_
          have U : Up (fun _ => False) wr.drew (fun u => u.cell? (ad.add j) = some (.int .i64 6)) := Up.cell (by simpa using hcell) (fun h => h)
          have LR : ∀ u, Ex (fun _ => False) wr.drew u → (loadVar 27 ⟨w.heap.size, 0, none⟩).run Tryd.prog u = .ok (.agg mc) u := fun u hu => run_loadVar_row (P := Tryd.prog) u w.heap.size 27 27 mc (0, 0) _ ((hu.block w.heap.size hgl (fun h => h)).trans HX.out) Tryd.underlying27 rfl (infoMsg.trans (congrArg some HS.out.symm))
          refine seq_at (some 18) (v := .agg mc) rfl (by kernel_rfl) (by kernel_rfl) (fun u hu => by simp only [execOp, Instr.loadAt, Instr.sureAddr, Act.eval, Sem.run_bind, Sem.run_pure, Result.andThen_ok]; simp [LR u hu, asAddr]) ?_
          simp only [Act.put, List.setIfInBounds_toArray, List.set_cons_zero, List.set_cons_succ]
          refine seq_at (some 19) (v := ?_) rfl (by kernel_rfl) (by kernel_rfl) ?_ ?_
          rotate_left
          · intro w' hw'
            go_simp
            try with_reducible rfl
          simp only [Act.put, List.setIfInBounds_toArray, List.set_cons_zero, List.set_cons_succ]
          refine seq_at (some 20) (v := ?_) rfl (by kernel_rfl) (by kernel_rfl) ?_ ?_
          rotate_left
          · intro w' hw'
            go_simp
            try with_reducible rfl
          simp only [Act.put, List.setIfInBounds_toArray, List.set_cons_zero, List.set_cons_succ]
          refine seq_at (some 21) (v := ?_) rfl (by kernel_rfl) (by kernel_rfl) ?_ ?_
          rotate_left
          · intro w' hw'
            obtain q0 := U w' hw'
            go_simp
            try with_reducible rfl
          simp only [Act.put, List.setIfInBounds_toArray, List.set_cons_zero, List.set_cons_succ]
          refine seq_at (some 22) (v := ?_) rfl (by kernel_rfl) (by kernel_rfl) ?_ ?_
          rotate_left
          · intro w' hw'
            obtain q0 := U w' hw'
            go_simp
            try with_reducible rfl
          simp only [Act.put, List.setIfInBounds_toArray, List.set_cons_zero, List.set_cons_succ]
          refine seq_eff rfl (by kernel_rfl) (fun K hK => ?_)
          go_simp
          refine (RF.out _).mono ?_
          rintro e w5 ⟨rfl, hb5⟩
          rw [HOK.out]
          refine hK.out _ _ (.inl (Ex.below hb5)) ?_
          try simp only [Act.put, List.setIfInBounds_toArray, List.set_cons_zero, List.set_cons_succ]
          clear hK
          refine seq_at (some 24) (v := ?_) rfl (by kernel_rfl) (by kernel_rfl) ?_ ?_
          rotate_left
          · intro w' hw'
            go_simp
            try with_reducible rfl
          simp only [Act.put, List.setIfInBounds_toArray, List.set_cons_zero, List.set_cons_succ]
          refine seq_nil ?_
          have HR : Hid (refMayB m = false) := Lib.hid (by unfold refMayB; rw [← HFd.out, all_false hlt (by rw [HF1.out]; exact HOK.out)]; rfl)
          go_wp2_with fail
          go_ret
          exact ⟨by rw [HR.out]; rfl, HB1.out.trans ((BW.out.drew.trans (hb5.mono BW.out.size)).mono (Nat.le_of_lt hgw))⟩
        | true =>
          refine wp_region_seq (fun _ => False) [] [(0, true), (1, true), (2, true), (3, true), (4, true), (5, false), (6, true)] (by kernel_rfl) (by kernel_rfl) (fun _ _ d _ _ h => by cases d <;> exact h) rfl (by kernel_rfl) ?_
          have U : Up (fun _ => False) wr.drew (fun u => u.cell? (ad.add j) = some (.int .i64 6)) := Up.cell (by simpa using hcell) (fun h => h)
          have LR : ∀ u, Ex (fun _ => False) wr.drew u → (loadVar 27 ⟨w.heap.size, 0, none⟩).run Tryd.prog u = .ok (.agg mc) u := fun u hu => run_loadVar_row (P := Tryd.prog) u w.heap.size 27 27 mc (0, 0) _ ((hu.block w.heap.size hgl (fun h => h)).trans HX.out) Tryd.underlying27 rfl (infoMsg.trans (congrArg some HS.out.symm))
          refine seq_at (some 18) (v := .agg mc) rfl (by kernel_rfl) (by kernel_rfl) (fun u hu => by simp only [execOp, Instr.loadAt, Instr.sureAddr, Act.eval, Sem.run_bind, Sem.run_pure, Result.andThen_ok]; simp [LR u hu, asAddr]) ?_
          simp only [Act.put, List.setIfInBounds_toArray, List.set_cons_zero, List.set_cons_succ]
          refine seq_at (some 19) (v := ?_) rfl (by kernel_rfl) (by kernel_rfl) ?_ ?_
          rotate_left
          · intro w' hw'
            go_simp
            try with_reducible rfl
          simp only [Act.put, List.setIfInBounds_toArray, List.set_cons_zero, List.set_cons_succ]
          refine seq_at (some 20) (v := ?_) rfl (by kernel_rfl) (by kernel_rfl) ?_ ?_
          rotate_left
          · intro w' hw'
            go_simp
            try with_reducible rfl
          simp only [Act.put, List.setIfInBounds_toArray, List.set_cons_zero, List.set_cons_succ]
          refine seq_at (some 21) (v := ?_) rfl (by kernel_rfl) (by kernel_rfl) ?_ ?_
          rotate_left
          · intro w' hw'
            obtain q0 := U w' hw'
            go_simp
            try with_reducible rfl
          simp only [Act.put, List.setIfInBounds_toArray, List.set_cons_zero, List.set_cons_succ]
          refine seq_at (some 22) (v := ?_) rfl (by kernel_rfl) (by kernel_rfl) ?_ ?_
          rotate_left
          · intro w' hw'
            obtain q0 := U w' hw'
            go_simp
            try with_reducible rfl
          simp only [Act.put, List.setIfInBounds_toArray, List.set_cons_zero, List.set_cons_succ]
          refine seq_eff rfl (by kernel_rfl) (fun K hK => ?_)
          go_simp
          refine (RF.out _).mono ?_
          rintro e w5 ⟨rfl, hb5⟩
          rw [HOK.out]
          refine hK.out _ _ (.inl (Ex.below hb5)) ?_
          try simp only [Act.put, List.setIfInBounds_toArray, List.set_cons_zero, List.set_cons_succ]
          clear hK
          refine seq_at (some 24) (v := ?_) rfl (by kernel_rfl) (by kernel_rfl) ?_ ?_
          rotate_left
          · intro w' hw'
            go_simp
            try with_reducible rfl
          simp only [Act.put, List.setIfInBounds_toArray, List.set_cons_zero, List.set_cons_succ]
          refine seq_nil ?_
          have HB5 := Lib.hid (BW.out.drew.trans (hb5.mono BW.out.size))
          have hc5 := (hb5.cell (p := ad.add j) (World.block_lt_of_cell? wr.drew _ (by simpa using hcell))).trans (show wr.drew.cell? (ad.add j) = some (.int .i64 6) by simpa using hcell)
          have HM5 : Hid (MBlk w5 w1.heap.size m0) := Lib.hid ((show MBlk wr.drew w1.heap.size m0 from ⟨HM.out.blk⟩).move (grown_of_below hb5 none) (by simp))
          have HC5 : Hid (MCells w5 w.heap.size m) := Lib.hid (HC1.out.below HB5.out)
          clear hb5 hcell U LR
          have cf := HC5.out.c6
          have e1 := HM5.out.cell 6
          rw [(mcells_get m0).2.2.2.2.2.2] at e1
          have f1 := HM5.out.free 6
          go_wp2_with fail
          go_roundg (gk - 1)
          case measure => have := hj.out; omega
          case rel => exact ⟨j + 1, (by go_num), ⟨(by have := hj.out; omega), (by omega), all_snoc hlt hj.out.2.2 (by rw [HF1.out]; exact HOK.out)⟩, (by rw [fold_snoc hlt, HF1.out, ← HMZ.out]; exact HM5.out.set (mset6 m0 m.dirty)), HB5.out.setCell (Nat.le_refl _) _⟩
      · have HF1 := Lib.hid hf
        obtain ⟨ok, hok⟩ : ∃ ok, okF m 7 = ok := ⟨_, rfl⟩
        have HOK := Lib.hid hok
        clear hf hok
        cases ok with
        | false =>
          refine wp_region_seq (fun _ => False) [] [(0, true), (1, true), (2, true), (3, true), (4, true), (5, false), (6, true)] (by kernel_rfl) (by kernel_rfl) (fun _ _ d _ _ h => by cases d <;> exact h) rfl (by kernel_rfl) ?_
          have U : Up (fun _ => False) wr.drew (fun u => u.cell? (ad.add j) = some (.int .i64 7)) := Up.cell (by simpa using hcell) (fun h => h)
          have LR : ∀ u, Ex (fun _ => False) wr.drew u → (loadVar 27 ⟨w.heap.size, 0, none⟩).run Tryd.prog u = .ok (.agg mc) u := fun u hu => run_loadVar_row (P := Tryd.prog) u w.heap.size 27 27 mc (0, 0) _ ((hu.block w.heap.size hgl (fun h => h)).trans HX.out) Tryd.underlying27 rfl (infoMsg.trans (congrArg some HS.out.symm))
          refine seq_at (some 18) (v := .agg mc) rfl (by kernel_rfl) (by kernel_rfl) (fun u hu => by simp only [execOp, Instr.loadAt, Instr.sureAddr, Act.eval, Sem.run_bind, Sem.run_pure, Result.andThen_ok]; simp [LR u hu, asAddr]) ?_
          simp only [Act.put, List.setIfInBounds_toArray, List.set_cons_zero, List.set_cons_succ]
          refine seq_at (some 19) (v := ?_) rfl (by kernel_rfl) (by kernel_rfl) ?_ ?_
          rotate_left
          · intro w' hw'
            go_simp
            try with_reducible rfl
          simp only [Act.put, List.setIfInBounds_toArray, List.set_cons_zero, List.set_cons_succ]
          refine seq_at (some 20) (v := ?_) rfl (by kernel_rfl) (by kernel_rfl) ?_ ?_
          rotate_left
          · intro w' hw'
            go_simp
            try with_reducible rfl
          simp only [Act.put, List.setIfInBounds_toArray, List.set_cons_zero, List.set_cons_succ]
          refine seq_at (some 21) (v := ?_) rfl (by kernel_rfl) (by kernel_rfl) ?_ ?_
          rotate_left
          · intro w' hw'
            obtain q0 := U w' hw'
            go_simp
            try with_reducible rfl
          simp only [Act.put, List.setIfInBounds_toArray, List.set_cons_zero, List.set_cons_succ]
          refine seq_at (some 22) (v := ?_) rfl (by kernel_rfl) (by kernel_rfl) ?_ ?_
          rotate_left
          · intro w' hw'
            obtain q0 := U w' hw'
            go_simp
            try with_reducible rfl
          simp only [Act.put, List.setIfInBounds_toArray, List.set_cons_zero, List.set_cons_succ]
          refine seq_eff rfl (by kernel_rfl) (fun K hK => ?_)
          go_simp
          refine (RF.out _).mono ?_
          rintro e w5 ⟨rfl, hb5⟩
          rw [HOK.out]
          refine hK.out _ _ (.inl (Ex.below hb5)) ?_
          try simp only [Act.put, List.setIfInBounds_toArray, List.set_cons_zero, List.set_cons_succ]
          clear hK
          refine seq_at (some 24) (v := ?_) rfl (by kernel_rfl) (by kernel_rfl) ?_ ?_
          rotate_left
          · intro w' hw'
            go_simp
            try with_reducible rfl
          simp only [Act.put, List.setIfInBounds_toArray, List.set_cons_zero, List.set_cons_succ]
          refine seq_nil ?_
          have HR : Hid (refMayB m = false) := Lib.hid (by unfold refMayB; rw [← HFd.out, all_false hlt (by rw [HF1.out]; exact HOK.out)]; rfl)
          go_wp2_with fail
          go_ret
          exact ⟨by rw [HR.out]; rfl, HB1.out.trans ((BW.out.drew.trans (hb5.mono BW.out.size)).mono (Nat.le_of_lt hgw))⟩
        | true =>
          refine wp_region_seq (fun _ => False) [] [(0, true), (1, true), (2, true), (3, true), (4, true), (5, false), (6, true)] (by kernel_rfl) (by kernel_rfl) (fun _ _ d _ _ h => by cases d <;> exact h) rfl (by kernel_rfl) ?_
          have U : Up (fun _ => False) wr.drew (fun u => u.cell? (ad.add j) = some (.int .i64 7)) := Up.cell (by simpa using hcell) (fun h => h)
          have LR : ∀ u, Ex (fun _ => False) wr.drew u → (loadVar 27 ⟨w.heap.size, 0, none⟩).run Tryd.prog u = .ok (.agg mc) u := fun u hu => run_loadVar_row (P := Tryd.prog) u w.heap.size 27 27 mc (0, 0) _ ((hu.block w.heap.size hgl (fun h => h)).trans HX.out) Tryd.underlying27 rfl (infoMsg.trans (congrArg some HS.out.symm))
          refine seq_at (some 18) (v := .agg mc) rfl (by kernel_rfl) (by kernel_rfl) (fun u hu => by simp only [execOp, Instr.loadAt, Instr.sureAddr, Act.eval, Sem.run_bind, Sem.run_pure, Result.andThen_ok]; simp [LR u hu, asAddr]) ?_
          simp only [Act.put, List.setIfInBounds_toArray, List.set_cons_zero, List.set_cons_succ]
          refine seq_at (some 19) (v := ?_) rfl (by kernel_rfl) (by kernel_rfl) ?_ ?_
          rotate_left
          · intro w' hw'
            go_simp
            try with_reducible rfl
          simp only [Act.put, List.setIfInBounds_toArray, List.set_cons_zero, List.set_cons_succ]
          refine seq_at (some 20) (v := ?_) rfl (by kernel_rfl) (by kernel_rfl) ?_ ?_
          rotate_left
          · intro w' hw'
            go_simp
            try with_reducible rfl
          simp only [Act.put, List.setIfInBounds_toArray, List.set_cons_zero, List.set_cons_succ]
          refine seq_at (some 21) (v := ?_) rfl (by kernel_rfl) (by kernel_rfl) ?_ ?_
          rotate_left
          · intro w' hw'
            obtain q0 := U w' hw'
            go_simp
            try with_reducible rfl
          simp only [Act.put, List.setIfInBounds_toArray, List.set_cons_zero, List.set_cons_succ]
          refine seq_at (some 22) (v := ?_) rfl (by kernel_rfl) (by kernel_rfl) ?_ ?_
          rotate_left
          · intro w' hw'
            obtain q0 := U w' hw'
            go_simp
            try with_reducible rfl
          simp only [Act.put, List.setIfInBounds_toArray, List.set_cons_zero, List.set_cons_succ]
          refine seq_eff rfl (by kernel_rfl) (fun K hK => ?_)
          go_simp
          refine (RF.out _).mono ?_
          rintro e w5 ⟨rfl, hb5⟩
          rw [HOK.out]
          refine hK.out _ _ (.inl (Ex.below hb5)) ?_
          try simp only [Act.put, List.setIfInBounds_toArray, List.set_cons_zero, List.set_cons_succ]
          clear hK
          refine seq_at (some 24) (v := ?_) rfl (by kernel_rfl) (by kernel_rfl) ?_ ?_
          rotate_left
          · intro w' hw'
            go_simp
            try with_reducible rfl
          simp only [Act.put, List.setIfInBounds_toArray, List.set_cons_zero, List.set_cons_succ]
          refine seq_nil ?_
          have HB5 := Lib.hid (BW.out.drew.trans (hb5.mono BW.out.size))
          have hc5 := (hb5.cell (p := ad.add j) (World.block_lt_of_cell? wr.drew _ (by simpa using hcell))).trans (show wr.drew.cell? (ad.add j) = some (.int .i64 7) by simpa using hcell)
          have HM5 : Hid (MBlk w5 w1.heap.size m0) := Lib.hid ((show MBlk wr.drew w1.heap.size m0 from ⟨HM.out.blk⟩).move (grown_of_below hb5 none) (by simp))
          have HC5 : Hid (MCells w5 w.heap.size m) := Lib.hid (HC1.out.below HB5.out)
          clear hb5 hcell U LR
          have BA := Lib.hid HC5.out.bodyAt
          go_wp2_with (first | (refine wpList_load_cells rfl 25 (.tmp 61) rfl ⟨w.heap.size, 7, none⟩ rfl (bodyV m.body) (body_load hm.body BA.out) ?_) | (refine wpList_store_body rfl (.tmp 63) (.tmp 62) rfl w1.heap.size m0 m.body rfl rfl hm.body HL.out HM5.out ?_))
          go_roundg (gk - 1)
          case measure => have := hj.out; omega
          case rel => exact ⟨j + 1, (by go_num), ⟨(by have := hj.out; omega), (by omega), all_snoc hlt hj.out.2.2 (by rw [HF1.out]; exact HOK.out)⟩, (by rw [fold_snoc hlt, HF1.out, ← HMZ.out]; exact ⟨setRow_at HM5.out.blk⟩), HB5.out.trans (below_of_row w5 _ _ (Nat.le_refl _))⟩
    · have hjl : F.take j = F := List.take_of_length_le (by omega)
      have HALL := Lib.hid (show F.all (okF m) = true by rw [← hjl]; exact hj.out.2.2)
      have HZ0 := Lib.hid (show m0 = F.foldl (fun a f => setF a m f) (bareM m.kind) by rw [HMZ.out, hjl])
      clear hjl
      by_cases h0 : 0 < F.length
      · have HR : Hid (refMayB m = msgB m0 m) := Lib.hid (by unfold refMayB; rw [← HFd.out, HALL.out, ← HZ0.out]; simp [h0])
        have EQ := Lib.hid (fun u => msg_eq u m0 m HMO.out hm)
        have HS0 := Lib.hid (mcells_size HMO.out)
        have HB0 := Lib.hid HM.out.blk
        rw [← HMC.out] at EQ
        obtain ⟨mc0, hmc0⟩ : ∃ x, x = mcells m0 := ⟨_, rfl⟩
        rw [← hmc0] at EQ HS0 HB0
        clear hmc0
        have eq := EQ.out
        go_wp2_with fail
        refine wp_load_row 27 (.tmp 4) rfl w1.heap.size rfl 27 mc0 (0, 0) _ HB0.out Tryd.underlying27 rfl (infoMsg.trans (congrArg some HS0.out.symm)) ?_
        go_at_K
        go_wp2_with fail
        refine wp_load_row 27 (.tmp 1) rfl w.heap.size rfl 27 mc (0, 0) _ HX.out Tryd.underlying27 rfl (infoMsg.trans (congrArg some HS.out.symm)) ?_
        go_at_K
        go_wp2_with fail
        go_ret
        exact ⟨by rw [HR.out]; rfl, HB1.out.trans (BW.out.mono (Nat.le_of_lt hgw))⟩
      · have HR : Hid (refMayB m = false) := Lib.hid (by unfold refMayB; rw [← HFd.out]; simp [h0])
        go_wp2_with fail
        go_ret
        exact ⟨by rw [HR.out]; rfl, HB1.out.trans (BW.out.mono (Nat.le_of_lt hgw))⟩
end Go.Proofs.YtemmdlanidepbaaDoor
