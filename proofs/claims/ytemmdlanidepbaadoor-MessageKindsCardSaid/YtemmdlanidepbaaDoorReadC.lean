/- Contract of Read's closure: a message is read, or given up. -/
import Derived.Test.YtemmdlanidepbaaDoorMust
import Derived.Test.YtemmdlanidepbaaDoorParse
import Derived.Test.YtemmdlanidepbaaDoorPutWalk
import Derived.Test.YtemmdlanidepbaaDoorSeq
import Derived.Laws.CopyOwn
namespace Go.Proofs.YtemmdlanidepbaaDoor
open Go.RowKit
set_option linter.unusedSimpArgs false
set_option maxRecDepth 100000

theorem zero_set (x : Int) : Tryd.zeroCells27.setIfInBounds 0 (.int .i64 x) = mcells (bareM x) := by kernel_rfl
theorem zero_size : Tryd.zeroCells27.size = 103 := by kernel_rfl
theorem bareM_size (x : Int) : (mcells (bareM x)).size = 103 := by simp [mcells, bareM, bv_len]
theorem mcells_all (m : Msg) : (mcells m).all (·.oneCell') = true := by
  rw [Array.all_eq_true_iff_forall_mem]
  intro v hv
  simp only [mcells, List.mem_toArray, List.mem_append, List.mem_cons, List.not_mem_nil, or_false] at hv
  rcases hv with (rfl | rfl | rfl | rfl | rfl | rfl | rfl) | hv
  all_goals first | rfl | exact bv_one _ v hv
theorem set_info (x : Int) : (Tryd.prog.info? 27).map (·.size) = some (Tryd.zeroCells27.setIfInBounds 0 (.int .i64 x)).size := by rw [Array.size_setIfInBounds, zero_size]; exact infoMsg
theorem set_all (x : Int) : (Tryd.zeroCells27.setIfInBounds 0 (.int .i64 x)).all (·.oneCell') = true := by rw [zero_set]; exact mcells_all _
theorem mset1 (m : Msg) (x : Int) : (mcells m).setIfInBounds 1 (.int .i64 x) = mcells { m with page := x } := by simp [mcells]
theorem mset2 (m : Msg) (x : Int) : (mcells m).setIfInBounds 2 (.int .i64 x) = mcells { m with op := x } := by simp [mcells]
theorem mset3 (m : Msg) (x : Int) : (mcells m).setIfInBounds 3 (.int .i64 x) = mcells { m with mode := x } := by simp [mcells]
theorem mset4 (m : Msg) (x : Int) : (mcells m).setIfInBounds 4 (.int .i64 x) = mcells { m with dest := x } := by simp [mcells]
theorem mset5 (m : Msg) (x : Int) : (mcells m).setIfInBounds 5 (.int .i64 x) = mcells { m with psn := x } := by simp [mcells]
theorem mset6 (m : Msg) (x : Bool) : (mcells m).setIfInBounds 6 (.bool x) = mcells { m with dirty := x } := by simp [mcells]
/-- a message's block -/
structure MBlk (w : World) (b : Nat) (m : Msg) : Prop where
  blk : w.heap[b]? = some (.cells (mcells m) 27 (0, 0))
theorem MBlk.cell {w : World} {b : Nat} {m : Msg} (h : MBlk w b m) (i : Nat) : w.cell? ⟨b, i, none⟩ = (mcells m)[i]? := cell_of_row w b i _ _ (0, 0) h.blk
theorem MBlk.free {w : World} {b : Nat} {m : Msg} (h : MBlk w b m) (i : Nat) : w.frozen? ⟨b, i, none⟩ = false := by simp [World.frozen?, h.blk]
theorem MBlk.lt {w : World} {b : Nat} {m : Msg} (h : MBlk w b m) : b < w.heap.size := (Array.getElem?_eq_some_iff.1 h.blk).1
theorem MBlk.move {w w1 : World} {b : Nat} {m : Msg} {r : Option Nat} (h : MBlk w b m) (hg : w.grownBy w1 r) (hne : some b ≠ r) : MBlk w1 b m := ⟨(hg.block b h.lt hne).trans h.blk⟩
theorem MBlk.set {w : World} {b i : Nat} {m m' : Msg} {v : Value} (h : MBlk w b m) (e : (mcells m).setIfInBounds i v = mcells m') : MBlk (w.setCell ⟨b, i, none⟩ v) b m' := ⟨by
  rw [← e]
  simp [World.setCell, Array.getElem?_modify, h.blk]⟩
/-- a block that came later has turned -/
theorem Rdr.off {w w2 w3 : World} {g : Nat} {ad : Addr} {c : Nat} {l : List UInt8} {p0 p k : Nat} (h0 : Rdr w g ad c l p0) (h : Rdr w2 g ad c l p) (hg : w2.grownBy w3 (some k)) (hk : w.heap.size ≤ k) : Rdr w3 g ad c l p := by
  have hlt := h0.lt
  refine ⟨(hg.block g h.lt (fun e => by injection e with e; omega)).trans h.blk, fun j u hj => ?_, h.pos_le, h.len, h.cap, h.apart⟩
  obtain ⟨ad', e, hc⟩ := h.bytes j u hj
  obtain ⟨ad2, e2, hc2⟩ := h0.bytes j u hj
  have hb := World.block_lt_of_cell? w _ hc2
  rw [add_block] at hb
  injection e with e
  injection e2 with e2
  subst e
  subst e2
  exact ⟨_, rfl, hg.cell hc (fun e => by rw [add_block] at e; injection e with e; omega)⟩
theorem own_keep {w w' : World} {base n : Nat} {e : TypeId} {size g : Nat} {v : Value} {xs : List Value} (h : w.ownsRow base e size v n xs) (hg : w.grownBy w' (some g)) (hlt : g < base) : w'.ownsRow base e size v n xs := by
  refine h.kept hg ?_
  cases hv : v.ownBlock with
  | none => exact .inl rfl
  | some k => exact .inr (fun e => by have := (h.lt k hv).1; injection e with e; omega)
theorem infoU8s : (Tryd.prog.info? 5).map (·.size) = some 1 := by kernel_rfl
theorem mset7 (m : Msg) (news : List UInt8) : ((mcells m).toList.take 7 ++ (bv news ++ (mcells m).toList.drop (7 + (bv news).length))).toArray = mcells { m with body := news ++ m.body.drop news.length } := by
  simp only [mcells, bv_len, bv_app]
  congr 1
  have e : (([.int .i64 m.kind, .int .i64 m.page, .int .i64 m.op, .int .i64 m.mode, .int .i64 m.dest, .int .i64 m.psn, .bool m.dirty] : List Value) ++ bv m.body).drop (7 + news.length) = bv (m.body.drop news.length) := by
    rw [List.drop_append]
    simp [bv, List.map_drop]
  rw [e]
  simp
theorem wp_copy_body {o : Oper} {a : Act} {w : World} {K : Act → World → Prop} {Q : Exit → Act → World → Prop} (d s : Operand) (ho : o.op = .call { callee := .builtin .copy, args := #[d, s], argTypes := #[28, 28] })
    (b b2 c2 : Nat) (m : Msg) (news : List UInt8) (hd : a.eval d = .slice (some ⟨b, 7, none⟩) 96 96) (hs : a.eval s = .slice (some ⟨b2, 0, none⟩) news.length c2) (hb : MBlk w b m) (hn : news.length ≤ 96) (hl : m.body.length = 96) (hA : At w (some ⟨b2, 0, none⟩) (bv news))
    (h : K (a.put o.dst (goInt (bv news).length)) (w.setRow b (mcells { m with body := news ++ m.body.drop news.length }))) : o.wp Tryd.prog a w K Q := by
  have hrun := run_copy_row (P := Tryd.prog) w 28 28 o.type 5 b 7 96 96 ⟨b2, 0, none⟩ news.length c2 (mcells m) 27 (bv news) Tryd.underlying28 infoU8s hb.blk (by rw [bv_len]; show _ = min _ _; omega)
    (fun j v hj => by obtain ⟨ad, e, hc⟩ := hA j v hj; injection e with e; subst e; exact hc) (by rw [bv_len]; simp [mcells, bv_len, hl]; omega) (bv_one _)
  rw [List.append_assoc, mset7] at hrun
  unfold Oper.wp
  simp [execOp, ho, resolve, invoke, builtin, hd, hs, hrun, Result.andThen]
  exact h
theorem rdBody_cases (l : List UInt8) (pos : Nat) : (dec 0 0 (l.drop pos) = none ∧ rdBody l pos = none) ∨ (∃ x k, dec 0 0 (l.drop pos) = some (x, k) ∧ 96 < x ∧ rdBody l pos = none) ∨ (∃ x k, dec 0 0 (l.drop pos) = some (x, k) ∧ x ≤ 96 ∧ l.length < pos + k + x ∧ rdBody l pos = none) ∨
    (∃ x k, dec 0 0 (l.drop pos) = some (x, k) ∧ x ≤ 96 ∧ pos + k + x ≤ l.length ∧ rdBody l pos = some ((l.drop (pos + k)).take x, pos + k + x)) := by
  unfold rdBody
  cases hd : dec 0 0 (l.drop pos) with
  | none => exact .inl ⟨rfl, rfl⟩
  | some r =>
    obtain ⟨x, k⟩ := r
    by_cases hx : x ≤ 96
    · by_cases h2 : pos + k + x ≤ l.length
      · exact .inr (.inr (.inr ⟨x, k, rfl, hx, h2, by simp [hx, h2]⟩))
      · exact .inr (.inr (.inl ⟨x, k, rfl, hx, by omega, by simp [h2]⟩))
    · exact .inr (.inl ⟨x, k, rfl, by omega, by simp [hx]⟩)
def ReadC (w : World) (g : Nat) (ad : Addr) (c : Nat) (l : List UInt8) (e : Ending) (w' : World) : Prop := match parse l with
  | some (m, p) => e = .returned (.agg (mcells m)) ∧ Rdr w' g ad c l p ∧ w.grownBy w' (some g)
  | none => Gone w g ad c l e w'
theorem rdNum_cases (l : List UInt8) (pos : Nat) : (dec 0 0 (l.drop pos) = none ∧ rdNum l pos = none) ∨ (∃ x k, dec 0 0 (l.drop pos) = some (x, k) ∧ 4611686018427387904 < x ∧ rdNum l pos = none) ∨ (∃ x k, dec 0 0 (l.drop pos) = some (x, k) ∧ x ≤ 4611686018427387904 ∧ rdNum l pos = some ((x : Int), pos + k)) := by
  unfold rdNum
  cases hd : dec 0 0 (l.drop pos) with
  | none => exact .inl ⟨rfl, rfl⟩
  | some r =>
    obtain ⟨x, k⟩ := r
    by_cases hx : x ≤ 4611686018427387904
    · exact .inr (.inr ⟨x, k, rfl, hx, by simp [hx]⟩)
    · exact .inr (.inl ⟨x, k, rfl, by omega, by simp [hx]⟩)

set_option maxHeartbeats 8000000 in
theorem readC_any (w : World) (g : Nat) (ad : Addr) (c : Nat) (l : List UInt8) (h : Rdr w g ad c l 0) (_ : l.length ≤ 512) : Calls Tryd.prog 45 #[.pointer (some ⟨g, 0, none⟩)] w (ReadC w g ad c l) := by
  go_enter Tryd.func45, Tryd.ntmps45
  go_wp2_with fail
  generalize hz : Tryd.zeroCells27 = z0
  have HZ := Lib.hid hz
  clear hz
  have hb0 := (Below.refl w.heap.size w).alloc (Nat.le_refl _) (.cells z0 27)
  have h0 := h.below hb0
  have hg0 := grown_of_below hb0 (some g)
  have HG0 := Lib.hid hg0
  have HZ0 := Lib.hid (heap_alloc_new w (.cells z0 27))
  have hs0 : w.heap.size < (w.alloc (.cells z0 27)).heap.size := by simp
  have hgl := h.lt
  clear hg0
  generalize w.alloc (.cells z0 27) = w0 at *
  rcases rdNum_cases l 0 with ⟨hd, hr⟩ | ⟨x, k, hd, hx, hr⟩ | ⟨x, k, hd, hx, hr⟩
  · have hp : parse l = none := by unfold parse; rw [hr]
    refine (number_kind_no _ _ _ _ _ _ h0 hd).mono ?_
    rintro e w1 ⟨rfl, p, hr1, hg1⟩
    refine ⟨rfl, ?_⟩
    unfold ReadC
    rw [hp]
    exact ⟨rfl, p, hr1, grown_trans HG0.out hg1 (.inl rfl)⟩
  · have hp : parse l = none := by unfold parse; rw [hr]
    refine (number_kind_big _ _ _ _ _ _ h0 hd hx).mono ?_
    rintro e w1 ⟨rfl, p, hr1, hg1⟩
    refine ⟨rfl, ?_⟩
    unfold ReadC
    rw [hp]
    exact ⟨rfl, p, hr1, grown_trans HG0.out hg1 (.inl rfl)⟩
  · have hp : parse l = rdFields (fieldsOf x) (bareM x) l (0 + k) := by unfold parse; rw [hr]
    have HP := Lib.hid hp
    clear hp
    refine (number_kind _ _ _ _ _ _ h0 hd hx).mono ?_
    rintro e w1 ⟨rfl, hr1, hg1⟩
    have HG1 := Lib.hid (grown_trans HG0.out hg1 (.inl rfl))
    have HZ1 := Lib.hid ((hg1.block w.heap.size hs0 (fun e => by injection e with e; omega)).trans HZ0.out)
    clear hg1 h0 hb0 HG0 HZ0 hr hd
    go_upto_region 2 with (refine wpList_store_row rfl 27 (.tmp 3) (.tmp 8) rfl w1.heap.size (Tryd.zeroCells27.setIfInBounds 0 (.int .i64 (x : Int))) rfl rfl 27 _ (heap_alloc_new w1 _) (set_info _) (Array.size_setIfInBounds ..).symm (set_all _) ?_)
    rw [World.setRow_alloc_new, zero_set]
    have hba := (Below.refl w1.heap.size w1).alloc (Nat.le_refl _) (.cells (mcells (bareM (x : Int))) 27)
    have MB : MBlk (w1.alloc (.cells (mcells (bareM (x : Int))) 27)) w1.heap.size (bareM x) := ⟨heap_alloc_new _ _⟩
    have hr2 := hr1.below hba
    have HG2 := Lib.hid (grown_trans HG1.out (grown_of_below hba (some g)) (.inl rfl))
    have hzl := (Array.getElem?_eq_some_iff.1 HZ1.out).1
    have HZ2 := Lib.hid ((hba.block w.heap.size hzl).trans HZ1.out)
    have hb3 : w.heap.size < w1.heap.size := hzl
    have HMB := Lib.hid MB
    have c0 := MB.cell 0
    rw [(mcells_get (bareM (x : Int))).1] at c0
    clear MB hba hr1 HG1 HZ1 hzl
    generalize w1.alloc (.cells (mcells (bareM (x : Int))) 27) = w2 at *
    generalize w1.heap.size = b3 at *
    generalize mcells (bareM (x : Int)) = mc0 at *
    have c0' : w2.cell? ⟨b3, 0, none⟩ = some (.int .i64 (x : Int)) := c0
    clear c0
    obtain ⟨F, hF⟩ : ∃ F, F = fieldsOf (x : Int) := ⟨_, rfl⟩
    have hFl : F.length ≤ 6 := by rw [hF]; exact fieldsOf_len _
    have HFd := Lib.hid hF
    clear hF
    go_wp2_with fail
    refine (fields_any (x : Int) _).mono ?_
    rw [← HFd.out]
    rintro e w3 ⟨A, c4, rfl, ho, hb⟩
    have hr3 := hr2.below hb
    have hs2 := HMB.out.lt
    have HM3 := Lib.hid (HMB.out.move (grown_of_below hb none) (by simp))
    have HG3 := Lib.hid (grown_trans HG2.out (grown_of_below hb (some g)) (.inl rfl))
    have HZ3 := Lib.hid ((hb.block w.heap.size (Nat.lt_trans hb3 hs2)).trans HZ2.out)
    have HAF := Lib.hid ho
    clear ho hb hr2 HG2 HZ2 HMB c0'
    go_wp2_with fail
    go_loopg [13] F.length (fun kk i wr => ∃ (j : Nat) (m : Msg) (p : Nat), i = .int .i64 (j : Int) ∧ Hid (j + kk = F.length ∧ j ≤ F.length ∧ rdFields (F.drop j) m l p = parse l ∧ m.body.length = 96) ∧ Rdr wr g ad c l p ∧ Hid (MBlk wr b3 m) ∧
      Hid (wr.ownsRow w2.heap.size 73 1 (.slice A F.length c4) F.length (iv F)) ∧ Hid (w.grownBy wr (some g)) ∧ Hid (wr.heap[w.heap.size]? = some (.cells z0 27 (0, 0))))
    case atStart => exact ⟨0, bareM x, 0 + k, rfl, ⟨Nat.zero_add _, Nat.zero_le _, by rw [HP.out, HFd.out]; rfl, by simp [bareM]⟩, hr3, HM3, HAF, HG3, HZ3⟩
    case round =>
      clear hr3 HM3 HAF HG3 HZ3
      obtain ⟨j, m, p, rfl, hj, hr, HM, HAF, HG, HZr⟩ := hrel
      by_cases hlt : j < F.length
      · obtain ⟨f, hf⟩ : ∃ f, F[j] = f := ⟨_, rfl⟩
        have hfr := fields_range (k := (x : Int)) (f := f) (by rw [← HFd.out, ← hf]; exact List.getElem_mem hlt)
        have hdr : F.drop j = f :: F.drop (j + 1) := by rw [List.drop_eq_getElem_cons hlt, hf]
        have HR := Lib.hid (show rdFields (f :: F.drop (j + 1)) m l p = parse l by rw [← hdr]; exact hj.out.2.2.1)
        obtain ⟨ad2, hAe, hcell⟩ := own_at HAF.out j (.int .i64 f) (by simp [iv, List.getElem?_eq_getElem hlt, hf])
        subst hAe
        clear hf hdr
        rcases hfr with rfl | rfl | rfl | rfl | rfl | rfl | rfl
        · rcases rdNum_cases l p with ⟨hd, hrn⟩ | ⟨y, k2, hd, hy, hrn⟩ | ⟨y, k2, hd, hy, hrn⟩
          · have HPN : Hid (parse l = none) := Lib.hid (by rw [← HR.out]; simp [rdFields, rdField, hrn])
            have HC := Lib.hid (number_int_no _ _ _ _ _ _ hr hd)
            clear hd hrn HR
            go_wp2_with fail
            refine HC.out.mono ?_
            rintro e w4 ⟨rfl, p4, hr4, hg4⟩
            refine ⟨rfl, ?_⟩
            unfold ReadC
            rw [HPN.out]
            exact ⟨rfl, p4, hr4, grown_trans HG.out hg4 (.inl rfl)⟩
          · have HPN : Hid (parse l = none) := Lib.hid (by rw [← HR.out]; simp [rdFields, rdField, hrn])
            have HC := Lib.hid (number_int_big _ _ _ _ _ _ hr hd hy)
            clear hd hrn HR
            go_wp2_with fail
            refine HC.out.mono ?_
            rintro e w4 ⟨rfl, p4, hr4, hg4⟩
            refine ⟨rfl, ?_⟩
            unfold ReadC
            rw [HPN.out]
            exact ⟨rfl, p4, hr4, grown_trans HG.out hg4 (.inl rfl)⟩
          · have HPN : Hid (rdFields (F.drop (j + 1)) { m with page := (y : Int) } l (p + k2) = parse l) := Lib.hid (by rw [← HR.out]; simp [rdFields, rdField, hrn])
            have HC := Lib.hid (number_int _ _ _ _ _ _ hr hd hy)
            clear hd hrn HR
            go_wp2_with fail
            refine HC.out.mono ?_
            rintro e w4 ⟨rfl, hr4, hg4⟩
            have M4 := HM.out.move hg4 (fun e => by injection e with e; omega)
            have e1 := M4.cell 1
            rw [(mcells_get m).2.1] at e1
            have f1 := M4.free 1
            have HM4 := Lib.hid M4
            clear M4 HC hcell
            go_wp2_with fail
            go_roundg (gk - 1)
            case measure => have := hj.out; omega
            case rel =>
              have hst := grown_set w4 b3 1 (.int .i64 (y : Int))
              exact ⟨j + 1, { m with page := (y : Int) }, p + k2, (by go_num), ⟨(by have := hj.out; omega), (by omega), HPN.out, hj.out.2.2.2⟩, h.off hr4 hst (by omega), HM4.out.set (mset1 _ _), own_keep (own_keep HAF.out hg4 (by omega)) hst hs2,
                grown_trans (grown_trans HG.out hg4 (.inl rfl)) hst (.inr ⟨b3, rfl, by omega⟩), ((hst.block _ (Nat.lt_of_lt_of_le (Array.getElem?_eq_some_iff.1 HZr.out).1 hg4.size) (fun e => by injection e with e; omega)).trans (hg4.block _ (Array.getElem?_eq_some_iff.1 HZr.out).1 (fun e => by injection e with e; omega))).trans HZr.out⟩
        · rcases rdNum_cases l p with ⟨hd, hrn⟩ | ⟨y, k2, hd, hy, hrn⟩ | ⟨y, k2, hd, hy, hrn⟩
          · have HPN : Hid (parse l = none) := Lib.hid (by rw [← HR.out]; simp [rdFields, rdField, hrn])
            have HC := Lib.hid (number_i64_no _ _ _ _ _ _ hr hd)
            clear hd hrn HR
            go_wp2_with fail
            refine HC.out.mono ?_
            rintro e w4 ⟨rfl, p4, hr4, hg4⟩
            refine ⟨rfl, ?_⟩
            unfold ReadC
            rw [HPN.out]
            exact ⟨rfl, p4, hr4, grown_trans HG.out hg4 (.inl rfl)⟩
          · have HPN : Hid (parse l = none) := Lib.hid (by rw [← HR.out]; simp [rdFields, rdField, hrn])
            have HC := Lib.hid (number_i64_big _ _ _ _ _ _ hr hd hy)
            clear hd hrn HR
            go_wp2_with fail
            refine HC.out.mono ?_
            rintro e w4 ⟨rfl, p4, hr4, hg4⟩
            refine ⟨rfl, ?_⟩
            unfold ReadC
            rw [HPN.out]
            exact ⟨rfl, p4, hr4, grown_trans HG.out hg4 (.inl rfl)⟩
          · have HPN : Hid (rdFields (F.drop (j + 1)) { m with op := (y : Int) } l (p + k2) = parse l) := Lib.hid (by rw [← HR.out]; simp [rdFields, rdField, hrn])
            have HC := Lib.hid (number_i64 _ _ _ _ _ _ hr hd hy)
            clear hd hrn HR
            go_wp2_with fail
            refine HC.out.mono ?_
            rintro e w4 ⟨rfl, hr4, hg4⟩
            have M4 := HM.out.move hg4 (fun e => by injection e with e; omega)
            have e1 := M4.cell 2
            rw [(mcells_get m).2.2.1] at e1
            have f1 := M4.free 2
            have HM4 := Lib.hid M4
            clear M4 HC hcell
            go_wp2_with fail
            go_roundg (gk - 1)
            case measure => have := hj.out; omega
            case rel =>
              have hst := grown_set w4 b3 2 (.int .i64 (y : Int))
              exact ⟨j + 1, { m with op := (y : Int) }, p + k2, (by go_num), ⟨(by have := hj.out; omega), (by omega), HPN.out, hj.out.2.2.2⟩, h.off hr4 hst (by omega), HM4.out.set (mset2 _ _), own_keep (own_keep HAF.out hg4 (by omega)) hst hs2,
                grown_trans (grown_trans HG.out hg4 (.inl rfl)) hst (.inr ⟨b3, rfl, by omega⟩), ((hst.block _ (Nat.lt_of_lt_of_le (Array.getElem?_eq_some_iff.1 HZr.out).1 hg4.size) (fun e => by injection e with e; omega)).trans (hg4.block _ (Array.getElem?_eq_some_iff.1 HZr.out).1 (fun e => by injection e with e; omega))).trans HZr.out⟩
        · rcases rdNum_cases l p with ⟨hd, hrn⟩ | ⟨y, k2, hd, hy, hrn⟩ | ⟨y, k2, hd, hy, hrn⟩
          · have HPN : Hid (parse l = none) := Lib.hid (by rw [← HR.out]; simp [rdFields, rdField, hrn])
            have HC := Lib.hid (number_mode_no _ _ _ _ _ _ hr hd)
            clear hd hrn HR
            go_wp2_with fail
            refine HC.out.mono ?_
            rintro e w4 ⟨rfl, p4, hr4, hg4⟩
            refine ⟨rfl, ?_⟩
            unfold ReadC
            rw [HPN.out]
            exact ⟨rfl, p4, hr4, grown_trans HG.out hg4 (.inl rfl)⟩
          · have HPN : Hid (parse l = none) := Lib.hid (by rw [← HR.out]; simp [rdFields, rdField, hrn])
            have HC := Lib.hid (number_mode_big _ _ _ _ _ _ hr hd hy)
            clear hd hrn HR
            go_wp2_with fail
            refine HC.out.mono ?_
            rintro e w4 ⟨rfl, p4, hr4, hg4⟩
            refine ⟨rfl, ?_⟩
            unfold ReadC
            rw [HPN.out]
            exact ⟨rfl, p4, hr4, grown_trans HG.out hg4 (.inl rfl)⟩
          · have HPN : Hid (rdFields (F.drop (j + 1)) { m with mode := (y : Int) } l (p + k2) = parse l) := Lib.hid (by rw [← HR.out]; simp [rdFields, rdField, hrn])
            have HC := Lib.hid (number_mode _ _ _ _ _ _ hr hd hy)
            clear hd hrn HR
            go_wp2_with fail
            refine HC.out.mono ?_
            rintro e w4 ⟨rfl, hr4, hg4⟩
            have M4 := HM.out.move hg4 (fun e => by injection e with e; omega)
            have e1 := M4.cell 3
            rw [(mcells_get m).2.2.2.1] at e1
            have f1 := M4.free 3
            have HM4 := Lib.hid M4
            clear M4 HC hcell
            go_wp2_with fail
            go_roundg (gk - 1)
            case measure => have := hj.out; omega
            case rel =>
              have hst := grown_set w4 b3 3 (.int .i64 (y : Int))
              exact ⟨j + 1, { m with mode := (y : Int) }, p + k2, (by go_num), ⟨(by have := hj.out; omega), (by omega), HPN.out, hj.out.2.2.2⟩, h.off hr4 hst (by omega), HM4.out.set (mset3 _ _), own_keep (own_keep HAF.out hg4 (by omega)) hst hs2,
                grown_trans (grown_trans HG.out hg4 (.inl rfl)) hst (.inr ⟨b3, rfl, by omega⟩), ((hst.block _ (Nat.lt_of_lt_of_le (Array.getElem?_eq_some_iff.1 HZr.out).1 hg4.size) (fun e => by injection e with e; omega)).trans (hg4.block _ (Array.getElem?_eq_some_iff.1 HZr.out).1 (fun e => by injection e with e; omega))).trans HZr.out⟩
        · rcases rdNum_cases l p with ⟨hd, hrn⟩ | ⟨y, k2, hd, hy, hrn⟩ | ⟨y, k2, hd, hy, hrn⟩
          · have HPN : Hid (parse l = none) := Lib.hid (by rw [← HR.out]; simp [rdFields, rdField, hrn])
            have HC := Lib.hid (number_int_no _ _ _ _ _ _ hr hd)
            clear hd hrn HR
            go_wp2_with fail
            refine HC.out.mono ?_
            rintro e w4 ⟨rfl, p4, hr4, hg4⟩
            refine ⟨rfl, ?_⟩
            unfold ReadC
            rw [HPN.out]
            exact ⟨rfl, p4, hr4, grown_trans HG.out hg4 (.inl rfl)⟩
          · have HPN : Hid (parse l = none) := Lib.hid (by rw [← HR.out]; simp [rdFields, rdField, hrn])
            have HC := Lib.hid (number_int_big _ _ _ _ _ _ hr hd hy)
            clear hd hrn HR
            go_wp2_with fail
            refine HC.out.mono ?_
            rintro e w4 ⟨rfl, p4, hr4, hg4⟩
            refine ⟨rfl, ?_⟩
            unfold ReadC
            rw [HPN.out]
            exact ⟨rfl, p4, hr4, grown_trans HG.out hg4 (.inl rfl)⟩
          · have HPN : Hid (rdFields (F.drop (j + 1)) { m with dest := (y : Int) } l (p + k2) = parse l) := Lib.hid (by rw [← HR.out]; simp [rdFields, rdField, hrn])
            have HC := Lib.hid (number_int _ _ _ _ _ _ hr hd hy)
            clear hd hrn HR
            go_wp2_with fail
            refine HC.out.mono ?_
            rintro e w4 ⟨rfl, hr4, hg4⟩
            have M4 := HM.out.move hg4 (fun e => by injection e with e; omega)
            have e1 := M4.cell 4
            rw [(mcells_get m).2.2.2.2.1] at e1
            have f1 := M4.free 4
            have HM4 := Lib.hid M4
            clear M4 HC hcell
            go_wp2_with fail
            go_roundg (gk - 1)
            case measure => have := hj.out; omega
            case rel =>
              have hst := grown_set w4 b3 4 (.int .i64 (y : Int))
              exact ⟨j + 1, { m with dest := (y : Int) }, p + k2, (by go_num), ⟨(by have := hj.out; omega), (by omega), HPN.out, hj.out.2.2.2⟩, h.off hr4 hst (by omega), HM4.out.set (mset4 _ _), own_keep (own_keep HAF.out hg4 (by omega)) hst hs2,
                grown_trans (grown_trans HG.out hg4 (.inl rfl)) hst (.inr ⟨b3, rfl, by omega⟩), ((hst.block _ (Nat.lt_of_lt_of_le (Array.getElem?_eq_some_iff.1 HZr.out).1 hg4.size) (fun e => by injection e with e; omega)).trans (hg4.block _ (Array.getElem?_eq_some_iff.1 HZr.out).1 (fun e => by injection e with e; omega))).trans HZr.out⟩
        · rcases rdNum_cases l p with ⟨hd, hrn⟩ | ⟨y, k2, hd, hy, hrn⟩ | ⟨y, k2, hd, hy, hrn⟩
          · have HPN : Hid (parse l = none) := Lib.hid (by rw [← HR.out]; simp [rdFields, rdField, hrn])
            have HC := Lib.hid (number_i64_no _ _ _ _ _ _ hr hd)
            clear hd hrn HR
            go_wp2_with fail
            refine HC.out.mono ?_
            rintro e w4 ⟨rfl, p4, hr4, hg4⟩
            refine ⟨rfl, ?_⟩
            unfold ReadC
            rw [HPN.out]
            exact ⟨rfl, p4, hr4, grown_trans HG.out hg4 (.inl rfl)⟩
          · have HPN : Hid (parse l = none) := Lib.hid (by rw [← HR.out]; simp [rdFields, rdField, hrn])
            have HC := Lib.hid (number_i64_big _ _ _ _ _ _ hr hd hy)
            clear hd hrn HR
            go_wp2_with fail
            refine HC.out.mono ?_
            rintro e w4 ⟨rfl, p4, hr4, hg4⟩
            refine ⟨rfl, ?_⟩
            unfold ReadC
            rw [HPN.out]
            exact ⟨rfl, p4, hr4, grown_trans HG.out hg4 (.inl rfl)⟩
          · have HPN : Hid (rdFields (F.drop (j + 1)) { m with psn := (y : Int) } l (p + k2) = parse l) := Lib.hid (by rw [← HR.out]; simp [rdFields, rdField, hrn])
            have HC := Lib.hid (number_i64 _ _ _ _ _ _ hr hd hy)
            clear hd hrn HR
            go_wp2_with fail
            refine HC.out.mono ?_
            rintro e w4 ⟨rfl, hr4, hg4⟩
            have M4 := HM.out.move hg4 (fun e => by injection e with e; omega)
            have e1 := M4.cell 5
            rw [(mcells_get m).2.2.2.2.2.1] at e1
            have f1 := M4.free 5
            have HM4 := Lib.hid M4
            clear M4 HC hcell
            go_wp2_with fail
            go_roundg (gk - 1)
            case measure => have := hj.out; omega
            case rel =>
              have hst := grown_set w4 b3 5 (.int .i64 (y : Int))
              exact ⟨j + 1, { m with psn := (y : Int) }, p + k2, (by go_num), ⟨(by have := hj.out; omega), (by omega), HPN.out, hj.out.2.2.2⟩, h.off hr4 hst (by omega), HM4.out.set (mset5 _ _), own_keep (own_keep HAF.out hg4 (by omega)) hst hs2,
                grown_trans (grown_trans HG.out hg4 (.inl rfl)) hst (.inr ⟨b3, rfl, by omega⟩), ((hst.block _ (Nat.lt_of_lt_of_le (Array.getElem?_eq_some_iff.1 HZr.out).1 hg4.size) (fun e => by injection e with e; omega)).trans (hg4.block _ (Array.getElem?_eq_some_iff.1 HZr.out).1 (fun e => by injection e with e; omega))).trans HZr.out⟩
        · have hcs : (∃ b r, l.drop p = b :: r ∧ b.toNat ≤ 1) ∨ (∃ b r, l.drop p = b :: r ∧ 1 < b.toNat) ∨ l.drop p = [] := by
            cases hl : l.drop p with
            | nil => exact .inr (.inr rfl)
            | cons b r =>
              by_cases hb : b.toNat ≤ 1
              · exact .inl ⟨b, r, rfl, hb⟩
              · exact .inr (.inl ⟨b, r, rfl, by omega⟩)
          rcases hcs with ⟨b, r, hd, hb⟩ | ⟨b, r, hd, hb⟩ | hd
          · have HPN : Hid (rdFields (F.drop (j + 1)) { m with dirty := (b.toNat == 1) } l (p + 1) = parse l) := Lib.hid (by rw [← HR.out]; simp [rdFields, rdField, rdFlg, hd, hb])
            have HC := Lib.hid (rdFlag_ok _ _ _ _ _ _ hr hd hb)
            clear hd HR
            generalize (b.toNat == 1) = y at *
            go_wp2_with fail
            refine HC.out.mono ?_
            rintro e w4 ⟨rfl, hr4, hg4⟩
            have M4 := HM.out.move hg4 (fun e => by injection e with e; omega)
            have e1 := M4.cell 6
            rw [(mcells_get m).2.2.2.2.2.2] at e1
            have f1 := M4.free 6
            have HM4 := Lib.hid M4
            clear M4 HC hcell
            go_wp2_with fail
            refine (must_bool _ _).mono ?_
            rintro e w' ⟨rfl, rfl⟩
            go_wp2_with fail
            go_roundg (gk - 1)
            case measure => have := hj.out; omega
            case rel =>
              have hst := grown_set w4 b3 6 (.bool y)
              exact ⟨j + 1, { m with dirty := y }, p + 1, (by go_num), ⟨(by have := hj.out; omega), (by omega), HPN.out, hj.out.2.2.2⟩, h.off hr4 hst (by omega), HM4.out.set (mset6 _ _), own_keep (own_keep HAF.out hg4 (by omega)) hst hs2,
                grown_trans (grown_trans HG.out hg4 (.inl rfl)) hst (.inr ⟨b3, rfl, by omega⟩), ((hst.block _ (Nat.lt_of_lt_of_le (Array.getElem?_eq_some_iff.1 HZr.out).1 hg4.size) (fun e => by injection e with e; omega)).trans (hg4.block _ (Array.getElem?_eq_some_iff.1 HZr.out).1 (fun e => by injection e with e; omega))).trans HZr.out⟩
          · have hb' : ¬ b.toNat ≤ 1 := by omega
            have HPN : Hid (parse l = none) := Lib.hid (by rw [← HR.out]; simp [rdFields, rdField, rdFlg, hd, hb'])
            clear hb'
            have HC := Lib.hid (rdFlag_bad _ _ _ _ _ _ hr hd hb)
            clear hd HR
            go_wp2_with fail
            refine HC.out.mono ?_
            rintro e w4 ⟨rfl, hr4, hg4⟩
            go_wp2_with fail
            refine (must_bool_bad _ 4 (by decide) _).mono ?_
            rintro e w' ⟨rfl, rfl⟩
            refine ⟨rfl, ?_⟩
            unfold ReadC
            rw [HPN.out]
            exact ⟨rfl, _, hr4, grown_trans HG.out hg4 (.inl rfl)⟩
          · have HPN : Hid (parse l = none) := Lib.hid (by rw [← HR.out]; simp [rdFields, rdField, rdFlg, hd])
            have hpe : p = l.length := by have h1 := congrArg List.length hd; have h2 := hr.pos_le; simp at h1; omega
            have HC := Lib.hid (rdFlag_end _ _ _ _ _ _ hr hpe)
            clear hd HR hpe
            go_wp2_with fail
            refine HC.out.mono ?_
            rintro e w4 ⟨rfl, hr4, hg4⟩
            go_wp2_with fail
            refine (must_bool_bad _ 4 (by decide) _).mono ?_
            rintro e w' ⟨rfl, rfl⟩
            refine ⟨rfl, ?_⟩
            unfold ReadC
            rw [HPN.out]
            exact ⟨rfl, _, hr4, grown_trans HG.out hg4 (.inl rfl)⟩
        · rcases rdBody_cases l p with ⟨hd, hrb⟩ | ⟨y, k2, hd, hy, hrb⟩ | ⟨y, k2, hd, hy, hs, hrb⟩ | ⟨y, k2, hd, hy, hs, hrb⟩
          · have HPN : Hid (parse l = none) := Lib.hid (by rw [← HR.out]; simp [rdFields, rdField, hrb])
            have HC := Lib.hid (fun W (hW : Rdr W g ad c l p) => rdBytes_no W g ad c l p hW 96 (by decide) hd)
            clear hd hrb HR
            go_wp2_with fail
            refine wp_region_seq (fun k => k = g ∨ k = b3) [] [(0, true), (1, true), (2, true), (3, false), (4, true), (5, true), (6, false), (7, false)] (by kernel_rfl) (by kernel_rfl) (fun _ _ d _ _ h => by cases d <;> exact h) rfl (by kernel_rfl) ?_
            have hrd := hr.drewN 1
            have hgd := Lib.hid (grown_drewN wr 1 (some g))
            refine seq_at (some 53) (v := ?_) rfl (by kernel_rfl) (by kernel_rfl) ?_ ?_
            rotate_left
            · intro w' hw'
              go_simp
              try with_reducible rfl
            simp only [Act.put, List.setIfInBounds_toArray, List.set_cons_zero, List.set_cons_succ]
            refine seq_at (some 54) (v := ?_) rfl (by kernel_rfl) (by kernel_rfl) ?_ ?_
            rotate_left
            · intro w' hw'
              go_simp
              try with_reducible rfl
            simp only [Act.put, List.setIfInBounds_toArray, List.set_cons_zero, List.set_cons_succ]
            refine seq_at (some 55) (v := ?_) rfl (by kernel_rfl) (by kernel_rfl) ?_ ?_
            rotate_left
            · intro w' hw'
              go_simp
              try with_reducible rfl
            simp only [Act.put, List.setIfInBounds_toArray, List.set_cons_zero, List.set_cons_succ]
            refine seq_eff rfl (by kernel_rfl) (fun K hK => ?_)
            go_simp
            refine (HC.out _ hrd).mono ?_
            rintro e w4 ⟨rfl, hr4, hg4⟩
            refine hK.out _ _ (.inl (Ex.grown hg4 (fun k hk => by injection hk with hk; exact .inl hk.symm))) ?_
            try simp only [Act.put, List.setIfInBounds_toArray, List.set_cons_zero, List.set_cons_succ]
            clear hK
            refine seq_at (some 57) (v := ?_) rfl (by kernel_rfl) (by kernel_rfl) ?_ ?_
            rotate_left
            · intro w' hw'
              go_simp
              try with_reducible rfl
            simp only [Act.put, List.setIfInBounds_toArray, List.set_cons_zero, List.set_cons_succ]
            refine seq_at (some 58) (v := ?_) rfl (by kernel_rfl) (by kernel_rfl) ?_ ?_
            rotate_left
            · intro w' hw'
              go_simp
              try with_reducible rfl
            simp only [Act.put, List.setIfInBounds_toArray, List.set_cons_zero, List.set_cons_succ]
            refine seq_eff rfl (by kernel_rfl) (fun K hK => ?_)
            go_simp
            refine (must_bytes_bad _ 4 (by decide) _).mono ?_
            rintro e w' ⟨rfl, rfl⟩
            refine ⟨rfl, ?_⟩
            unfold ReadC
            rw [HPN.out]
            exact ⟨rfl, _, hr4, grown_trans (grown_trans HG.out hgd.out (.inl rfl)) hg4 (.inl rfl)⟩
          · have HPN : Hid (parse l = none) := Lib.hid (by rw [← HR.out]; simp [rdFields, rdField, hrb])
            have HC := Lib.hid (fun W (hW : Rdr W g ad c l p) => rdBytes_long W g ad c l p hW 96 (by decide) (by decide) hd (by omega))
            clear hd hrb HR
            go_wp2_with fail
            refine wp_region_seq (fun k => k = g ∨ k = b3) [] [(0, true), (1, true), (2, true), (3, false), (4, true), (5, true), (6, false), (7, false)] (by kernel_rfl) (by kernel_rfl) (fun _ _ d _ _ h => by cases d <;> exact h) rfl (by kernel_rfl) ?_
            have hrd := hr.drewN 1
            have hgd := Lib.hid (grown_drewN wr 1 (some g))
            refine seq_at (some 53) (v := ?_) rfl (by kernel_rfl) (by kernel_rfl) ?_ ?_
            rotate_left
            · intro w' hw'
              go_simp
              try with_reducible rfl
            simp only [Act.put, List.setIfInBounds_toArray, List.set_cons_zero, List.set_cons_succ]
            refine seq_at (some 54) (v := ?_) rfl (by kernel_rfl) (by kernel_rfl) ?_ ?_
            rotate_left
            · intro w' hw'
              go_simp
              try with_reducible rfl
            simp only [Act.put, List.setIfInBounds_toArray, List.set_cons_zero, List.set_cons_succ]
            refine seq_at (some 55) (v := ?_) rfl (by kernel_rfl) (by kernel_rfl) ?_ ?_
            rotate_left
            · intro w' hw'
              go_simp
              try with_reducible rfl
            simp only [Act.put, List.setIfInBounds_toArray, List.set_cons_zero, List.set_cons_succ]
            refine seq_eff rfl (by kernel_rfl) (fun K hK => ?_)
            go_simp
            refine (HC.out _ hrd).mono ?_
            rintro e w4 ⟨rfl, hr4, hg4⟩
            refine hK.out _ _ (.inl (Ex.grown hg4 (fun k hk => by injection hk with hk; exact .inl hk.symm))) ?_
            try simp only [Act.put, List.setIfInBounds_toArray, List.set_cons_zero, List.set_cons_succ]
            clear hK
            refine seq_at (some 57) (v := ?_) rfl (by kernel_rfl) (by kernel_rfl) ?_ ?_
            rotate_left
            · intro w' hw'
              go_simp
              try with_reducible rfl
            simp only [Act.put, List.setIfInBounds_toArray, List.set_cons_zero, List.set_cons_succ]
            refine seq_at (some 58) (v := ?_) rfl (by kernel_rfl) (by kernel_rfl) ?_ ?_
            rotate_left
            · intro w' hw'
              go_simp
              try with_reducible rfl
            simp only [Act.put, List.setIfInBounds_toArray, List.set_cons_zero, List.set_cons_succ]
            refine seq_eff rfl (by kernel_rfl) (fun K hK => ?_)
            go_simp
            refine (must_bytes_bad _ 3 (by decide) _).mono ?_
            rintro e w' ⟨rfl, rfl⟩
            refine ⟨rfl, ?_⟩
            unfold ReadC
            rw [HPN.out]
            exact ⟨rfl, _, hr4, grown_trans (grown_trans HG.out hgd.out (.inl rfl)) hg4 (.inl rfl)⟩
          · have HPN : Hid (parse l = none) := Lib.hid (by rw [← HR.out]; simp [rdFields, rdField, hrb])
            have HC := Lib.hid (fun W (hW : Rdr W g ad c l p) => rdBytes_short W g ad c l p hW 96 (by decide) hd (by omega) hs)
            clear hd hrb HR
            go_wp2_with fail
            refine wp_region_seq (fun k => k = g ∨ k = b3) [] [(0, true), (1, true), (2, true), (3, false), (4, true), (5, true), (6, false), (7, false)] (by kernel_rfl) (by kernel_rfl) (fun _ _ d _ _ h => by cases d <;> exact h) rfl (by kernel_rfl) ?_
            have hrd := hr.drewN 1
            have hgd := Lib.hid (grown_drewN wr 1 (some g))
            refine seq_at (some 53) (v := ?_) rfl (by kernel_rfl) (by kernel_rfl) ?_ ?_
            rotate_left
            · intro w' hw'
              go_simp
              try with_reducible rfl
            simp only [Act.put, List.setIfInBounds_toArray, List.set_cons_zero, List.set_cons_succ]
            refine seq_at (some 54) (v := ?_) rfl (by kernel_rfl) (by kernel_rfl) ?_ ?_
            rotate_left
            · intro w' hw'
              go_simp
              try with_reducible rfl
            simp only [Act.put, List.setIfInBounds_toArray, List.set_cons_zero, List.set_cons_succ]
            refine seq_at (some 55) (v := ?_) rfl (by kernel_rfl) (by kernel_rfl) ?_ ?_
            rotate_left
            · intro w' hw'
              go_simp
              try with_reducible rfl
            simp only [Act.put, List.setIfInBounds_toArray, List.set_cons_zero, List.set_cons_succ]
            refine seq_eff rfl (by kernel_rfl) (fun K hK => ?_)
            go_simp
            refine (HC.out _ hrd).mono ?_
            rintro e w4 ⟨rfl, hr4, hg4⟩
            refine hK.out _ _ (.inl (Ex.grown hg4 (fun k hk => by injection hk with hk; exact .inl hk.symm))) ?_
            try simp only [Act.put, List.setIfInBounds_toArray, List.set_cons_zero, List.set_cons_succ]
            clear hK
            refine seq_at (some 57) (v := ?_) rfl (by kernel_rfl) (by kernel_rfl) ?_ ?_
            rotate_left
            · intro w' hw'
              go_simp
              try with_reducible rfl
            simp only [Act.put, List.setIfInBounds_toArray, List.set_cons_zero, List.set_cons_succ]
            refine seq_at (some 58) (v := ?_) rfl (by kernel_rfl) (by kernel_rfl) ?_ ?_
            rotate_left
            · intro w' hw'
              go_simp
              try with_reducible rfl
            simp only [Act.put, List.setIfInBounds_toArray, List.set_cons_zero, List.set_cons_succ]
            refine seq_eff rfl (by kernel_rfl) (fun K hK => ?_)
            go_simp
            refine (must_bytes_bad _ 4 (by decide) _).mono ?_
            rintro e w' ⟨rfl, rfl⟩
            refine ⟨rfl, ?_⟩
            unfold ReadC
            rw [HPN.out]
            exact ⟨rfl, _, hr4, grown_trans (grown_trans HG.out hgd.out (.inl rfl)) hg4 (.inl rfl)⟩
          · have HPN : Hid (rdFields (F.drop (j + 1)) { m with body := (l.drop (p + k2)).take y ++ m.body.drop ((l.drop (p + k2)).take y).length } l (p + k2 + y) = parse l) := Lib.hid (by rw [← HR.out]; simp only [rdFields, rdField, hrb]; rfl)
            have HC := Lib.hid (fun W (hW : Rdr W g ad c l p) => rdBytes_ok W g ad c l p hW 96 (by decide) hd (by omega) hs)
            have hnl : ((l.drop (p + k2)).take y).length ≤ 96 := by rw [List.length_take]; omega
            clear hd hrb HR
            go_wp2_with fail
            refine wp_region_seq (fun k => k = g ∨ k = b3) [] [(0, true), (1, true), (2, true), (3, false), (4, true), (5, true), (6, false), (7, false)] (by kernel_rfl) (by kernel_rfl) (fun _ _ d _ _ h => by cases d <;> exact h) rfl (by kernel_rfl) ?_
            have hrd := hr.drewN 1
            have hgd := Lib.hid (grown_drewN wr 1 (some g))
            obtain ⟨nw, hnw⟩ : ∃ nw, nw = (l.drop (p + k2)).take y := ⟨_, rfl⟩
            rw [← hnw] at HPN hnl HC
            clear hnw
            obtain ⟨pe, hpe⟩ : ∃ pe, pe = p + k2 + y := ⟨_, rfl⟩
            rw [← hpe] at HPN HC
            clear hpe hs hy
            refine seq_at (some 53) (v := ?_) rfl (by kernel_rfl) (by kernel_rfl) ?_ ?_
            rotate_left
            · intro w' hw'
              go_simp
              try with_reducible rfl
            simp only [Act.put, List.setIfInBounds_toArray, List.set_cons_zero, List.set_cons_succ]
            refine seq_at (some 54) (v := ?_) rfl (by kernel_rfl) (by kernel_rfl) ?_ ?_
            rotate_left
            · intro w' hw'
              go_simp
              try with_reducible rfl
            simp only [Act.put, List.setIfInBounds_toArray, List.set_cons_zero, List.set_cons_succ]
            refine seq_at (some 55) (v := ?_) rfl (by kernel_rfl) (by kernel_rfl) ?_ ?_
            rotate_left
            · intro w' hw'
              go_simp
              try with_reducible rfl
            simp only [Act.put, List.setIfInBounds_toArray, List.set_cons_zero, List.set_cons_succ]
            refine seq_eff rfl (by kernel_rfl) (fun K hK => ?_)
            go_simp
            refine (HC.out _ hrd).mono ?_
            rintro e w4 ⟨b4, c5, rfl, ho4, hr4, hg4⟩
            refine hK.out _ _ (.inl (Ex.grown hg4 (fun k hk => by injection hk with hk; exact .inl hk.symm))) ?_
            try simp only [Act.put, List.setIfInBounds_toArray, List.set_cons_zero, List.set_cons_succ]
            clear hK
            have M4 := (HM.out.move (grown_drewN wr 1 none) (by simp)).move hg4 (fun e => by injection e with e; omega)
            have HM4 := Lib.hid M4
            have HO4 := Lib.hid ho4
            have hgw := grown_trans (grown_trans HG.out hgd.out (.inl rfl)) hg4 (.inl rfl)
            have HGW := Lib.hid hgw
            clear M4 hgw HC hcell ho4
            refine seq_at (some 57) (v := ?_) rfl (by kernel_rfl) (by kernel_rfl) ?_ ?_
            rotate_left
            · intro w' hw'
              go_simp
              try with_reducible rfl
            simp only [Act.put, List.setIfInBounds_toArray, List.set_cons_zero, List.set_cons_succ]
            refine seq_at (some 58) (v := ?_) rfl (by kernel_rfl) (by kernel_rfl) ?_ ?_
            rotate_left
            · intro w' hw'
              go_simp
              try with_reducible rfl
            simp only [Act.put, List.setIfInBounds_toArray, List.set_cons_zero, List.set_cons_succ]
            refine seq_eff rfl (by kernel_rfl) (fun K hK => ?_)
            go_simp
            refine (must_bytes _ _).mono ?_
            rintro e w' ⟨rfl, rfl⟩
            refine hK.out _ _ (.inl (Ex.refl _ _)) ?_
            try simp only [Act.put, List.setIfInBounds_toArray, List.set_cons_zero, List.set_cons_succ]
            clear hK
            refine seq_eff rfl (by kernel_rfl) (fun K hK => ?_)
            refine wp_copy_body _ _ rfl b3 b4 c5 m nw rfl rfl HM4.out hnl hj.out.2.2.2 (own_at HO4.out) ?_
            have hst := setRow_grown w4 b3 (mcells { m with body := nw ++ m.body.drop nw.length })
            have HM5 : MBlk (w4.setRow b3 (mcells { m with body := nw ++ m.body.drop nw.length })) b3 { m with body := nw ++ m.body.drop nw.length } := ⟨setRow_at HM4.out.blk⟩
            show K (Act.put _ (some 60) _) _
            refine hK.out _ _ (.inl (Ex.grown hst (fun k hk => by injection hk with hk; exact .inr hk.symm))) ?_
            try simp only [Act.put, List.setIfInBounds_toArray, List.set_cons_zero, List.set_cons_succ]
            clear hK
            generalize w4.setRow b3 (mcells { m with body := nw ++ m.body.drop nw.length }) = w5 at *
            have HM5' := Lib.hid HM5
            clear HM5
            refine seq_nil ?_
            go_wp2_with fail
            go_roundg (gk - 1)
            case measure => have := hj.out; omega
            case rel =>
              exact ⟨j + 1, { m with body := nw ++ m.body.drop nw.length }, pe, (by go_num), ⟨(by have := hj.out; omega), (by omega), HPN.out, (by have := hj.out.2.2.2; simp [this]; omega)⟩, h.off hr4 hst (by omega), HM5'.out, own_keep (own_keep (own_below HAF.out (Bl.drewN (Below.refl _ _) 1)) hg4 (by omega)) hst hs2,
                grown_trans HGW.out hst (.inr ⟨b3, rfl, by omega⟩), ((hst.block _ (Nat.lt_of_lt_of_le (Array.getElem?_eq_some_iff.1 HZr.out).1 hg4.size) (fun e => by injection e with e; omega)).trans (hg4.block _ (Array.getElem?_eq_some_iff.1 HZr.out).1 (fun e => by injection e with e; omega))).trans HZr.out⟩
      · have HPN : Hid (parse l = some (m, p)) := Lib.hid (by rw [← hj.out.2.2.1, List.drop_eq_nil_of_le (by omega)]; rfl)
        have hms : (mcells m).size = 103 := by simp [mcells, bv_len, hj.out.2.2.2]
        have HMS := Lib.hid hms
        clear hms
        go_wp2_with (first | (refine wpList_load_row rfl 27 (.tmp 3) rfl b3 rfl 27 (mcells m) (0, 0) _ HM.out.blk Tryd.underlying27 rfl (infoMsg.trans (congrArg some HMS.out.symm)) ?_) | (refine wpList_store_row rfl 27 (.tmp 2) (.tmp 62) rfl w.heap.size (mcells m) rfl rfl 27 z0 HZr.out (infoMsg.trans (congrArg some HMS.out.symm)) (by rw [HMS.out, ← HZ.out]; exact zero_size) (mcells_all m) ?_))
        have hrow := setRow_at (cs := mcells m) HZr.out
        have hgr := setRow_grown wr w.heap.size (mcells m)
        have hrf := h.off hr hgr (Nat.le_refl _)
        have hgf := grown_trans HG.out hgr (.inr ⟨_, rfl, Nat.le_refl _⟩)
        generalize wr.setRow w.heap.size (mcells m) = wf at *
        refine bodyPost_ret (v := .agg (mcells m)) ?hr rfl ?hp
        case hr => exact results_cell_row rfl _ _ w.heap.size 27 _ (0, 0) _ rfl hrow Tryd.underlying27 rfl (infoMsg.trans (congrArg some HMS.out.symm))
        case hp =>
          unfold ReadC
          rw [HPN.out]
          exact ⟨rfl, hrf, hgf⟩
end Go.Proofs.YtemmdlanidepbaaDoor
