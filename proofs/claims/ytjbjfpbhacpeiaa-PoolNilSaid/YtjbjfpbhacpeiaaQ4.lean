/- Contract of the document's Set. -/
import Derived.Test.YtjbjfpbhacpeiaaQ3
import Derived.Test.YtjbjfpbhacpeiaaP6
namespace Go.Proofs.Ytjbjfpbhacpeiaa
open Go.RowKit
set_option linter.unusedSimpArgs false
set_option linter.unusedVariables false
set_option linter.unusedSectionVars false
set_option maxRecDepth 100000

theorem zi84 : (Try.prog.info? 84).bind (·.zero) = some (.agg szA) := by kernel_rfl
theorem pl84 : ∃ fs, Try.prog.underlying 84 = some (.struct fs) ∧ fs.toList.mapM (fun f => (Try.prog.info? f.type).map fun i => (f.offset, i.size)) = some [(0, 1), (1, 102), (103, 1), (104, 1)] := ⟨_, sl_under, by kernel_rfl⟩
theorem scA_size {x : Slot} (h : SOk x) : (scA x).size = 105 := by rw [scA, List.size_toArray, scells_len h]
theorem scA_info {x : Slot} (h : SOk x) : (Try.prog.info? 84).map (·.size) = some (scA x).size := infoSl.trans (by rw [scA_size h])
theorem scA_all (x : Slot) : (scA x).all (·.oneCell') = true := all_oneCell_toArray (scells_one x)
theorem built_slot (f : Fr) (hf : f.Ok) : Try.prog.built 84 [(0, .bool true), (1, .agg (fA f)), (3, .bool true)] = some (scA (some ⟨true, 0, f⟩)) := by
  obtain ⟨fs, hu, hp⟩ := pl84
  rw [built_of zi84 hu hp]
  have h0 : (fA f).size = 102 := by rw [fA, List.size_toArray, fcells_len hf]
  have n0 := sc_none_len
  show Instr.fill _ (scells none).toArray _ = _
  rw [fill_cons (off := 0) (size := 1) rfl rfl (by omega)]
  have e1 : patch (scells none) 0 [.bool true] = (.bool true : Value) :: (fcells fr0 ++ [.int .i64 0, .bool false]) := rfl
  show Instr.fill _ (patch (scells none) 0 [.bool true]).toArray _ = _
  rw [e1, fill_cons (v := .agg (fA f)) (off := 1) (size := 102) rfl h0 (by simp [fcells_len fr0_ok])]
  have e2 : patch ((.bool true : Value) :: (fcells fr0 ++ [.int .i64 0, .bool false])) 1 (fcells f) = ((.bool true : Value) :: fcells f) ++ [.int .i64 0, .bool false] := by
    have := patch_mid [(.bool true : Value)] (fcells fr0) [.int .i64 0, .bool false] 0 (fcells f) (by rw [fcells_len hf, fcells_len fr0_ok]; omega)
    rw [patch_all (fcells fr0) (fcells f) (by rw [fcells_len hf, fcells_len fr0_ok])] at this
    exact this
  show Instr.fill _ (patch ((.bool true : Value) :: (fcells fr0 ++ [.int .i64 0, .bool false])) 1 (fcells f)).toArray _ = _
  rw [e2, fill_cons (v := .bool true) (off := 104) (size := 1) rfl rfl (by simp [fcells_len hf])]
  show some (patch (((.bool true : Value) :: fcells f) ++ [.int .i64 0, .bool false]) 104 [.bool true]).toArray = _
  rw [patch_one _ _ _ (by simp [fcells_len hf]), (list_set_tail ((.bool true : Value) :: fcells f) (.int .i64 0) (.bool false) 103 (by rw [List.length_cons, fcells_len hf]) (.bool true)).1]
  rfl
theorem patch_sfr (l : Live) (f : Fr) (hl : l.f.Ok) (hf : f.Ok) : patch (scells (some l)) 1 (fcells f) = scells (some { l with f := f }) := by
  have := patch_mid [(.bool true : Value)] (fcells l.f) [.int .i64 l.pins, .bool l.used] 0 (fcells f) (by rw [fcells_len hf, fcells_len hl]; omega)
  rw [patch_all (fcells l.f) (fcells f) (by rw [fcells_len hf, fcells_len hl])] at this
  exact this
theorem put_put (S : PS) (i : Nat) (x y : Slot) : (S.put i x).put i y = S.put i y := by simp [PS.put]
section
variable (w : World) (r q : Nat) {K : Int} {S : PS} (h : RefAt w r q S) (hS : S.Ok K) (hK : 0 ≤ K) (f : Fr) (hf : f.Ok)
include h hS hf
set_option maxHeartbeats 4000000 in
theorem rset_bad (hm : mayF f = false) : Calls Try.prog 28 #[.pointer (some ⟨r, 0, none⟩), .agg (fA f)] w (fun e w' => e = .returned (.int .i64 2) ∧ RefAt w' r q S ∧ Ex (RB r q) w w') := by
  have HX := Lib.hid (heap_alloc_new w (.cells (fA f) 39))
  have HP := Lib.hid (h.alloc (.cells (fA f) 39))
  have HE := Lib.hid (Ex.alloc (RB r q) w (.cells (fA f) 39))
  have HO := Lib.hid hf
  have HM := Lib.hid (rmay_any f hf (w.alloc (.cells (fA f) 39)))
  rw [hm] at HM
  clear h hS hf hm
  go_enter Try.func28, Try.ntmps28
  go_wp2_with (refine wpList_load_row rfl 39 (.tmp 3) rfl w.heap.size rfl 39 (fA f) (0, 0) _ HX.out Try.underlying39 rfl (infoFrA HO.out) ?_)
  refine HM.out.mono ?_
  rintro e w1 ⟨rfl, hb⟩
  have HP1 := Lib.hid (HP.out.later hb)
  have HE1 := Lib.hid (HE.out.trans (Ex.below hb))
  go_wp2_with fail
  go_ret
  exact ⟨rfl, HP1.out, HE1.out⟩
set_option maxHeartbeats 8000000 in
theorem rset_hit (hm : mayF f = true) (i : Nat) (l : Live) (hi : posF f.page S.s = some i) (hl : S.s[i]? = some (some l)) : Calls Try.prog 28 #[.pointer (some ⟨r, 0, none⟩), .agg (fA f)] w (fun e w' => e = .returned (.int .i64 0) ∧ RefAt w' r q (S.put i (some { l with used := true, f := f })) ∧ Ex (RB r q) w w') := by
  have hC : FCells (w.alloc (.cells (fA f) 39)) w.heap.size f := ⟨heap_alloc_new w _⟩
  have HX := Lib.hid (heap_alloc_new w (.cells (fA f) 39))
  have HP := Lib.hid (h.alloc (.cells (fA f) 39))
  have HE := Lib.hid (Ex.alloc (RB r q) w (.cells (fA f) 39))
  have HO := Lib.hid hf
  have HM := Lib.hid (rmay_any f hf (w.alloc (.cells (fA f) 39)))
  rw [hm] at HM
  have HS := Lib.hid hS
  have HL := Lib.hid hl
  have hlt := (List.getElem?_eq_some_iff.1 hl).1
  have hlI : (i : Int) < (S.s.length : Int) := by omega
  have hgr : w.heap.size ≠ r := fun e => by have := h.head.lt; omega
  have hgq : w.heap.size ≠ q := fun e => by have := h.row.lt; omega
  have HF : Hid (findV S f.page = (i : Int)) := Lib.hid (findV_hit hi)
  obtain ⟨l', hl', epg⟩ := posF_some hi
  obtain rfl : l' = l := by rw [hl] at hl'; injection hl' with hl'; injection hl' with hl'; exact hl'.symm
  obtain ⟨a0, a1, a2, a3⟩ := hS.live i l' hl
  have HA0 := Lib.hid a0
  have HA2 := Lib.hid a2
  have HA3 := Lib.hid a3
  have HMf := Lib.hid hm
  have HEp := Lib.hid epg
  clear h hS hC hf hm hi hl hl' a0 a1 a2 a3 epg
  go_enter Try.func28, Try.ntmps28
  go_wp2_with (refine wpList_load_row rfl 39 (.tmp 3) rfl w.heap.size rfl 39 (fA f) (0, 0) _ HX.out Try.underlying39 rfl (infoFrA HO.out) ?_)
  refine HM.out.mono ?_
  rintro e w1 ⟨rfl, hb⟩
  have hX1 := (hb.block _ (Array.getElem?_eq_some_iff.1 HX.out).1).trans HX.out
  have c0 := (FCells.c (f := f) ⟨hX1⟩ HO.out).1
  have HX1 := Lib.hid hX1
  have HP1 := Lib.hid (HP.out.later hb)
  have HE1 := Lib.hid (HE.out.trans (Ex.below hb))
  have HFi := Lib.hid (find_any w1 r q HP1.out HS.out f.page)
  rw [HF.out] at HFi
  clear hb hX1 HX HP HE HM
  go_wp2_with fail
  refine HFi.out.mono ?_
  rintro e w' ⟨rfl, rfl⟩
  have cs := HP1.out.c0
  go_upto_region 7 with fail
  have U : Up (fun k => k = q) w1.drew (fun u => u.cell? ⟨r, 0, none⟩ = some (.slice (some ⟨q, 0, none⟩) S.s.length S.s.length)) := Up.cell (w := w1.drew) cs HP1.out.ne
  have U2 : Up (fun k => k = q) w1.drew (fun u => u.heap[w.heap.size]? = some (.cells (fA f) 39 (0, 0))) := fun u hu => (hu.block _ (Array.getElem?_eq_some_iff.1 HX1.out).1 hgq).trans HX1.out
  have hPd : RefAt w1.drew r q S := ⟨HP1.out.head, HP1.out.row⟩
  have HT : Hid (w1.drew.there q (i * 105 + 1) (fA f).size) := Lib.hid (hPd.row.there _ _ (by rw [fl_len S.s (sc_ok HS.out), fA, List.size_toArray, fcells_len HO.out]; omega))
  have h1 := hPd.sets HS.out HL.out (j := 1) (y := some { l' with f := f }) (fcells f) (by rw [fcells_len HO.out]; omega) (patch_sfr l' f HA0.out HO.out)
  have ok1 : (S.put i (some { l' with f := f })).Ok K := HS.out.same HL.out ⟨HO.out, HMf.out, HA2.out, HA3.out⟩ HEp.out.symm
  have hl1 : (S.put i (some { l' with f := f })).s[i]? = some (some { l' with f := f }) := by simp [PS.put, hlt]
  have h2 := h1.set ok1 hl1 (.bool true) (j := 104) (by omega) (sc_used { l' with f := f } HO.out true)
  rw [put_put] at h2
  have f104 : (w1.drew.setCells q (i * 105 + 1) (fA f).toList).frozen? ⟨q, i * 105 + 104, none⟩ = false := h1.row.frozen _
  have c104 : (w1.drew.setCells q (i * 105 + 1) (fA f).toList).cell? ⟨q, i * 105 + 104, none⟩ = some (.bool l'.used) := (h1.live ok1 hl1).2.2.2
  have HP2 : Hid (RefAt ((w1.drew.setCells q (i * 105 + 1) (fA f).toList).setCell ⟨q, i * 105 + 104, none⟩ (.bool true)) r q (S.put i (some { l' with used := true, f := f }))) := Lib.hid h2
  have ex1 := setCells_ex (T := fun k => k = q) (fA f).toList (i * 105 + 1) w1.drew rfl
  have HE2 : Hid (Ex (RB r q) w ((w1.drew.setCells q (i * 105 + 1) (fA f).toList).setCell ⟨q, i * 105 + 104, none⟩ (.bool true))) := Lib.hid (((HE1.out.trans (Ex.drew (RB r q) w1)).trans (ex1.mono (T' := RB r q) fun k hk => .inr hk)).trans (setCell_ex (T := RB r q) _ _ _ (.inr rfl)))
  have HEX := Lib.hid ex1
  clear hPd h1 h2 ok1 hl1 ex1 HE1
  refine wp_region_seq (fun k => k = q) [] [(0, true), (1, true), (2, true), (3, true), (4, true), (5, true), (6, true), (7, true), (8, true), (9, true), (10, true), (11, true), (12, true), (13, false), (14, true), (15, true), (16, false)] (by kernel_rfl) (by kernel_rfl) (fun _ _ d _ _ h => by cases d <;> exact h) rfl (by kernel_rfl) ?_
  refine seq_at (some 17) (v := ?_) rfl (by kernel_rfl) (by kernel_rfl) ?_ ?_
  rotate_left
  · intro w' hw'
    obtain q0 := U w' hw'
    go_simp
    try with_reducible rfl
  simp only [Act.put, List.setIfInBounds_toArray, List.set_cons_zero, List.set_cons_succ]
  refine seq_at (some 18) (v := ?_) rfl (by kernel_rfl) (by kernel_rfl) ?_ ?_
  rotate_left
  · intro w' hw'
    obtain q0 := U w' hw'
    go_simp
    try with_reducible rfl
  simp only [Act.put, List.setIfInBounds_toArray, List.set_cons_zero, List.set_cons_succ]
  refine seq_at (some 19) (v := ?_) rfl (by kernel_rfl) (by kernel_rfl) ?_ ?_
  rotate_left
  · intro w' hw'
    obtain q0 := U w' hw'
    go_simp
    try with_reducible rfl
  simp only [Act.put, List.setIfInBounds_toArray, List.set_cons_zero, List.set_cons_succ]
  refine seq_at (some 20) (v := ?_) rfl (by kernel_rfl) (by kernel_rfl) ?_ ?_
  rotate_left
  · intro w' hw'
    obtain q0 := U w' hw'
    go_simp
    try with_reducible rfl
  simp only [Act.put, List.setIfInBounds_toArray, List.set_cons_zero, List.set_cons_succ]
  refine seq_at (some 21) (v := ?_) rfl (by kernel_rfl) (by kernel_rfl) ?_ ?_
  rotate_left
  · intro w' hw'
    obtain q0 := U w' hw'
    go_simp
    try with_reducible rfl
  simp only [Act.put, List.setIfInBounds_toArray, List.set_cons_zero, List.set_cons_succ]
  refine seq_at (some 22) (v := ?_) rfl (by kernel_rfl) (by kernel_rfl) ?_ ?_
  rotate_left
  · intro w' hw'
    obtain q0 := U w' hw'
    go_simp
    try with_reducible rfl
  simp only [Act.put, List.setIfInBounds_toArray, List.set_cons_zero, List.set_cons_succ]
  refine seq_at (some 23) (v := ?_) rfl (by kernel_rfl) (by kernel_rfl) ?_ ?_
  rotate_left
  · intro w' hw'
    obtain q0 := U w' hw'
    go_simp
    try with_reducible rfl
  simp only [Act.put, List.setIfInBounds_toArray, List.set_cons_zero, List.set_cons_succ]
  refine seq_at (some 24) (v := ?_) rfl (by kernel_rfl) (by kernel_rfl) ?_ ?_
  rotate_left
  · intro w' hw'
    obtain q0 := U w' hw'
    go_simp
    try with_reducible rfl
  simp only [Act.put, List.setIfInBounds_toArray, List.set_cons_zero, List.set_cons_succ]
  refine seq_at (some 25) (v := ?_) rfl (by kernel_rfl) (by kernel_rfl) ?_ ?_
  rotate_left
  · intro w' hw'
    obtain q0 := U w' hw'
    go_simp
    try with_reducible rfl
  simp only [Act.put, List.setIfInBounds_toArray, List.set_cons_zero, List.set_cons_succ]
  refine seq_at (some 26) (v := ?_) rfl (by kernel_rfl) (by kernel_rfl) ?_ ?_
  rotate_left
  · intro w' hw'
    obtain q0 := U w' hw'
    go_simp
    try with_reducible rfl
  simp only [Act.put, List.setIfInBounds_toArray, List.set_cons_zero, List.set_cons_succ]
  refine seq_load_fr (some 27) rfl (by kernel_rfl) (by kernel_rfl) (.tmp 3) rfl w.heap.size f rfl HO.out U2 ?_
  simp only [Act.put, List.setIfInBounds_toArray, List.set_cons_zero, List.set_cons_succ]
  refine seq_at (some 28) (v := ?_) rfl (by kernel_rfl) (by kernel_rfl) ?_ ?_
  rotate_left
  · intro w' hw'
    go_simp
    try with_reducible rfl
  simp only [Act.put, List.setIfInBounds_toArray, List.set_cons_zero, List.set_cons_succ]
  refine seq_at (some 29) (v := ?_) rfl (by kernel_rfl) (by kernel_rfl) ?_ ?_
  rotate_left
  · intro w' hw'
    go_simp
    try with_reducible rfl
  simp only [Act.put, List.setIfInBounds_toArray, List.set_cons_zero, List.set_cons_succ]
  refine seq_eff rfl (by kernel_rfl) (fun K0 hK0 => ?_)
  refine wp_store_mid 39 (.tmp 29) (.tmp 27) rfl q (i * 105 + 1) (fA f) rfl rfl HT.out (infoFrA HO.out) (fv_all _) ?_
  show K0 (Act.put _ none undef) _
  simp only [Act.put]
  refine hK0.out _ _ (.inl HEX.out) ?_
  generalize w1.drew.setCells q (i * 105 + 1) (fA f).toList = w2 at *
  clear hK0
  refine seq_at (some 30) (v := ?_) rfl (by kernel_rfl) (by kernel_rfl) ?_ ?_
  rotate_left
  · intro w' hw'
    go_simp
    try with_reducible rfl
  simp only [Act.put, List.setIfInBounds_toArray, List.set_cons_zero, List.set_cons_succ]
  refine seq_at (some 31) (v := ?_) rfl (by kernel_rfl) (by kernel_rfl) ?_ ?_
  rotate_left
  · intro w' hw'
    go_simp
    try with_reducible rfl
  simp only [Act.put, List.setIfInBounds_toArray, List.set_cons_zero, List.set_cons_succ]
  refine seq_eff rfl (by kernel_rfl) (fun K hK => ?_)
  go_simp
  refine hK.out _ _ (.inl (setCell_ex (T := fun k => k = q) _ _ _ rfl)) ?_
  refine seq_nil ?_
  go_wp2_with fail
  go_ret
  exact ⟨rfl, HP2.out, HE2.out⟩
set_option maxHeartbeats 8000000 in
theorem rset_miss (hm : mayF f = true) (hi : posF f.page S.s = none) : Calls Try.prog 28 #[.pointer (some ⟨r, 0, none⟩), .agg (fA f)] w (fun e w' => e = .returned (.int .i64 (setS S f).1) ∧ RefAt w' r q (setS S f).2 ∧ Ex (RB r q) w w') := by
  have hC : FCells (w.alloc (.cells (fA f) 39)) w.heap.size f := ⟨heap_alloc_new w _⟩
  have HX := Lib.hid (heap_alloc_new w (.cells (fA f) 39))
  have HP := Lib.hid (h.alloc (.cells (fA f) 39))
  have HE := Lib.hid (Ex.alloc (RB r q) w (.cells (fA f) 39))
  have HO := Lib.hid hf
  have HM := Lib.hid (rmay_any f hf (w.alloc (.cells (fA f) 39)))
  rw [hm] at HM
  have HS := Lib.hid hS
  have hgr : w.heap.size ≠ r := fun e => by have := h.head.lt; omega
  have hgq : w.heap.size ≠ q := fun e => by have := h.row.lt; omega
  have HF : Hid (findV S f.page = -1) := Lib.hid (findV_miss hi)
  have HMf := Lib.hid hm
  have HI := Lib.hid hi
  have h16 := hS.len
  clear h hS hC hf hm hi
  go_enter Try.func28, Try.ntmps28
  go_wp2_with (refine wpList_load_row rfl 39 (.tmp 3) rfl w.heap.size rfl 39 (fA f) (0, 0) _ HX.out Try.underlying39 rfl (infoFrA HO.out) ?_)
  refine HM.out.mono ?_
  rintro e w1 ⟨rfl, hb⟩
  have hX1 := (hb.block _ (Array.getElem?_eq_some_iff.1 HX.out).1).trans HX.out
  have c0 := (FCells.c (f := f) ⟨hX1⟩ HO.out).1
  have HX1 := Lib.hid hX1
  have HP1 := Lib.hid (HP.out.later hb)
  have HE1 := Lib.hid (HE.out.trans (Ex.below hb))
  have HFi := Lib.hid (find_any w1 r q HP1.out HS.out f.page)
  rw [HF.out] at HFi
  clear hb hX1 HX HP HE HM
  go_wp2_with fail
  refine HFi.out.mono ?_
  rintro e w' ⟨rfl, rfl⟩
  have cs := HP1.out.c0
  go_wp2_with fail
  go_loopg [5] S.s.length (fun kk i wr => ∃ j : Nat, i = .int .i64 (j : Int) ∧ Hid (j + kk = S.s.length ∧ firstF (fun x => x.isNone) (S.s.drop j) j = freeF S.s) ∧ w1 = wr)
  case atStart => exact ⟨0, rfl, Lib.hid ⟨Nat.zero_add _, rfl⟩, rfl⟩
  case round =>
    obtain ⟨j, rfl, hj, rfl⟩ := hrel
    by_cases hlt : j < S.s.length
    · have hq := firstF_drop (fun x => x.isNone) S.s j hlt
      have hgq' := List.getElem?_eq_getElem hlt
      have hlI : (j : Int) < (S.s.length : Int) := by omega
      cases hsj : S.s[j] with
      | some l =>
        rw [hsj] at hq hgq'
        rw [if_neg (by simp)] at hq
        have cl := (HP1.out.live HS.out hgq').1
        have HQ := Lib.hid (hq.symm.trans hj.out.2)
        clear hq hgq' hsj
        go_wp2_with fail
        go_roundg (gk - 1)
        case measure => have := hj.out; omega
        case rel => exact ⟨j + 1, (by go_num), Lib.hid ⟨(by have := hj.out; omega), HQ.out⟩, rfl⟩
      | none =>
        rw [hsj] at hq hgq'
        simp only [Option.isNone_none, if_true] at hq
        have cl := HP1.out.free HS.out hgq'
        have HR := Lib.hid (setS_new HMf.out HI.out (hj.out.2.symm.trans hq))
        have HG := Lib.hid hgq'
        clear hq hgq' hsj
        go_upto_region 13 with fail
        have U : Up (fun k => k = q) w1.drew (fun u => u.cell? ⟨r, 0, none⟩ = some (.slice (some ⟨q, 0, none⟩) S.s.length S.s.length)) := Up.cell (w := w1.drew) cs HP1.out.ne
        have U2 : Up (fun k => k = q) w1.drew (fun u => u.heap[w.heap.size]? = some (.cells (fA f) 39 (0, 0))) := fun u hu => (hu.block _ (Array.getElem?_eq_some_iff.1 HX1.out).1 hgq).trans HX1.out
        have hPd : RefAt w1.drew r q S := ⟨HP1.out.head, HP1.out.row⟩
        have hso : SOk (some ⟨true, 0, f⟩) := fun l0 e0 => by injection e0 with e0; subst e0; exact HO.out.body
        have HT : Hid (w1.drew.there q (j * 105) (scA (some ⟨true, 0, f⟩)).size) := Lib.hid (hPd.row.there _ _ (by rw [fl_len S.s (sc_ok HS.out), scA_size hso]; omega))
        have h1 := hPd.sets HS.out HG.out (j := 0) (y := some ⟨true, 0, f⟩) (scells (some ⟨true, 0, f⟩)) (by rw [scells_len hso]; omega) (patch_all _ _ (by rw [sc_none_len, scells_len hso]))
        rw [Nat.add_zero] at h1
        have HP2 : Hid (RefAt (w1.drew.setCells q (j * 105) (scA (some ⟨true, 0, f⟩)).toList) r q (S.put j (some ⟨true, 0, f⟩))) := Lib.hid h1
        have exA := setCells_ex (T := fun k => k = q) (scA (some ⟨true, 0, f⟩)).toList (j * 105) w1.drew rfl
        have HE2 := Lib.hid ((HE1.out.trans (Ex.drew (RB r q) w1)).trans (exA.mono (T' := RB r q) fun k hk => .inr hk))
        have HEX := Lib.hid exA
        have HI84 := Lib.hid (scA_info hso)
        clear hPd h1 exA hso HE1
        refine wp_region_seq (fun k => k = q) [] [(0, true), (1, true), (2, true), (3, true), (4, true), (5, true), (6, true), (7, true), (8, false)] (by kernel_rfl) (by kernel_rfl) (fun _ _ d _ _ h => by cases d <;> exact h) rfl (by kernel_rfl) ?_
        refine seq_at (some 50) (v := ?_) rfl (by kernel_rfl) (by kernel_rfl) ?_ ?_
        rotate_left
        · intro w' hw'
          obtain q0 := U w' hw'
          go_simp
          try with_reducible rfl
        simp only [Act.put, List.setIfInBounds_toArray, List.set_cons_zero, List.set_cons_succ]
        refine seq_at (some 51) (v := ?_) rfl (by kernel_rfl) (by kernel_rfl) ?_ ?_
        rotate_left
        · intro w' hw'
          obtain q0 := U w' hw'
          go_simp
          try with_reducible rfl
        simp only [Act.put, List.setIfInBounds_toArray, List.set_cons_zero, List.set_cons_succ]
        refine seq_at (some 52) (v := ?_) rfl (by kernel_rfl) (by kernel_rfl) ?_ ?_
        rotate_left
        · intro w' hw'
          obtain q0 := U w' hw'
          go_simp
          try with_reducible rfl
        simp only [Act.put, List.setIfInBounds_toArray, List.set_cons_zero, List.set_cons_succ]
        refine seq_at (some 53) (v := ?_) rfl (by kernel_rfl) (by kernel_rfl) ?_ ?_
        rotate_left
        · intro w' hw'
          obtain q0 := U w' hw'
          go_simp
          try with_reducible rfl
        simp only [Act.put, List.setIfInBounds_toArray, List.set_cons_zero, List.set_cons_succ]
        refine seq_at (some 54) (v := ?_) rfl (by kernel_rfl) (by kernel_rfl) ?_ ?_
        rotate_left
        · intro w' hw'
          obtain q0 := U w' hw'
          go_simp
          try with_reducible rfl
        simp only [Act.put, List.setIfInBounds_toArray, List.set_cons_zero, List.set_cons_succ]
        refine seq_load_fr (some 55) rfl (by kernel_rfl) (by kernel_rfl) (.tmp 3) rfl w.heap.size f rfl HO.out U2 ?_
        simp only [Act.put, List.setIfInBounds_toArray, List.set_cons_zero, List.set_cons_succ]
        refine seq_build (some 56) rfl (by kernel_rfl) (by kernel_rfl) 84 [(0, .const (.bool true)), (1, .tmp 55), (3, .const (.bool true))] rfl (scA (some ⟨true, 0, f⟩)) (built_slot f HO.out) ?_
        simp only [Act.put, List.setIfInBounds_toArray, List.set_cons_zero, List.set_cons_succ]
        refine seq_at (some 57) (v := ?_) rfl (by kernel_rfl) (by kernel_rfl) ?_ ?_
        rotate_left
        · intro w' hw'
          go_simp
          try with_reducible rfl
        simp only [Act.put, List.setIfInBounds_toArray, List.set_cons_zero, List.set_cons_succ]
        refine seq_eff rfl (by kernel_rfl) (fun K0 hK0 => ?_)
        refine wp_store_mid 84 (.tmp 57) (.tmp 56) rfl q (j * 105) (scA (some ⟨true, 0, f⟩)) rfl rfl HT.out HI84.out (scA_all _) ?_
        show K0 (Act.put _ none undef) _
        simp only [Act.put]
        refine hK0.out _ _ (.inl HEX.out) ?_
        generalize w1.drew.setCells q (j * 105) (scA (some ⟨true, 0, f⟩)).toList = w2 at *
        clear hK0
        refine seq_nil ?_
        go_wp2_with fail
        go_ret
        exact ⟨by rw [HR.out]; rfl, by rw [HR.out]; exact HP2.out, HE2.out⟩
    · have HQ : Hid (freeF S.s = none) := Lib.hid (by rw [← hj.out.2, List.drop_eq_nil_of_le (by omega)]; rfl)
      have HR := Lib.hid (setS_full HMf.out HI.out HQ.out)
      go_wp2_with fail
      go_ret
      exact ⟨by rw [HR.out]; rfl, by rw [HR.out]; exact HP1.out, HE1.out⟩
theorem rset_any : Calls Try.prog 28 #[.pointer (some ⟨r, 0, none⟩), .agg (fA f)] w (fun e w' => e = .returned (.int .i64 (setS S f).1) ∧ RefAt w' r q (setS S f).2 ∧ Ex (RB r q) w w') := by
  cases hm : mayF f with
  | false => rw [setS_bad hm]; exact rset_bad w r q h hS f hf hm
  | true =>
    cases hi : posF f.page S.s with
    | none => exact rset_miss w r q h hS f hf hm hi
    | some i =>
      obtain ⟨l, hl, _⟩ := posF_some hi
      rw [setS_hit hm hi hl]
      exact rset_hit w r q h hS f hf hm i l hi hl
end
end Go.Proofs.Ytjbjfpbhacpeiaa
