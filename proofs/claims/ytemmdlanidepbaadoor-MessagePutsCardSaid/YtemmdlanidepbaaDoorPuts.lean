/- The walk of MessagePuts. -/
import Derived.Test.YtemmdlanidepbaaDoorKnown18
import Derived.Test.YtemmdlanidepbaaDoorRefPut
import Derived.Test.YtemmdlanidepbaaDoorSeqMsg
namespace Go.Proofs.YtemmdlanidepbaaDoor
open Go.RowKit
set_option linter.unusedSimpArgs false
set_option maxRecDepth 100000

set_option maxHeartbeats 8000000 in
theorem puts_no (m : Msg) (hm : m.Ok) (hn : mayM m = false) (w : World) : Calls Tryd.prog 3 #[.agg (mcells m)] w (fun e w' => e = .returned (.bool true) ∧ Below w.heap.size w w') := by
  have hb1 : Below w.heap.size w (w.alloc (.cells (mcells m) 27)) := (Below.refl _ _).alloc (Nat.le_refl _) _
  have HX1 := Lib.hid (heap_alloc_new w (.cells (mcells m) 27))
  have HB1 := Lib.hid hb1
  have HS := Lib.hid (mcells_size hm)
  have HP := Lib.hid (fun u => msg_put_no m hm hn u)
  have HM := Lib.hid (fun u => mayC m hm u)
  have HRM := Lib.hid (fun u => refMay_any m hm u)
  rw [hn] at HM HRM
  have hl1 : w.heap.size < (w.alloc (.cells (mcells m) 27)).heap.size := by simp
  clear hb1
  generalize mcells m = mc at *
  go_enter Tryd.func3, Tryd.ntmps3
  go_wp2_with (refine load_msg HS.out rfl (.tmp 1) rfl w.heap.size rfl HX1.out ?_)
  refine (HP.out _).mono ?_
  generalize w.alloc (.cells mc 27) = w1 at *
  rintro e w2 ⟨rfl, hb⟩
  have HX2 := Lib.hid ((hb.block _ hl1).trans HX1.out)
  have HB2 := Lib.hid (Bl.step HB1.out hb)
  have hl2 := (Array.getElem?_eq_some_iff.1 HX2.out).1
  clear hb HX1 HB1 hl1
  go_wp2_with fail
  refine wp_region_seq (fun _ => False) [] [(0, true), (2, true), (1, false), (3, false), (4, true)] (by kernel_rfl) (by kernel_rfl) (fun _ _ d _ _ h => by cases d <;> exact h) rfl (by kernel_rfl) ?_
  have hx2 : w2.drew.heap[w.heap.size]? = some (.cells mc 27 (0, 0)) := HX2.out
  refine seq_load_msg (some 12) rfl (by kernel_rfl) (by kernel_rfl) (.tmp 1) (by kernel_rfl) w.heap.size mc rfl HS.out (Up.blk hx2 (fun h => h)) ?_
  simp only [Act.put, List.setIfInBounds_toArray, List.set_cons_zero, List.set_cons_succ]
  refine seq_load_msg (some 14) rfl (by kernel_rfl) (by kernel_rfl) (.tmp 1) (by kernel_rfl) w.heap.size mc rfl HS.out (Up.blk hx2 (fun h => h)) ?_
  simp only [Act.put, List.setIfInBounds_toArray, List.set_cons_zero, List.set_cons_succ]
  refine seq_eff rfl (by kernel_rfl) (fun K hK => ?_)
  go_simp
  refine (HM.out _).mono ?_
  rintro e w3 ⟨rfl, hb3⟩
  refine hK.out _ _ (.inl (Ex.below hb3)) ?_
  try simp only [Act.put, List.setIfInBounds_toArray, List.set_cons_zero, List.set_cons_succ]
  clear hK
  have HB3 := Lib.hid (Bl.step HB2.out.drew hb3)
  have HX3 := Lib.hid ((hb3.block _ hl2).trans hx2)
  have hl3 := (Array.getElem?_eq_some_iff.1 HX3.out).1
  clear hb3 hx2
  refine seq_eff rfl (by kernel_rfl) (fun K hK => ?_)
  go_simp
  refine (HRM.out _).mono ?_
  rintro e w4 ⟨rfl, hb4⟩
  refine hK.out _ _ (.inl (Ex.below hb4)) ?_
  try simp only [Act.put, List.setIfInBounds_toArray, List.set_cons_zero, List.set_cons_succ]
  clear hK
  have HB4 := Lib.hid (Bl.step HB3.out hb4)
  have HX4 := Lib.hid ((hb4.block _ hl3).trans HX3.out)
  have hl4 := (Array.getElem?_eq_some_iff.1 HX4.out).1
  clear hb4 HX2 HX3 HB2 HB3 hl2 hl3
  refine seq_at (some 16) (v := ?_) rfl (by kernel_rfl) (by kernel_rfl) ?_ ?_
  rotate_left
  · intro w' hw'
    go_simp
    try with_reducible rfl
  simp only [Act.put, List.setIfInBounds_toArray, List.set_cons_zero, List.set_cons_succ]
  refine seq_nil ?_
  go_wp2_with (refine load_msg HS.out rfl (.tmp 1) rfl w.heap.size rfl HX4.out ?_)
  refine (HRM.out _).mono ?_
  rintro e w5 ⟨rfl, hb5⟩
  have HB5 := Lib.hid (Bl.step HB4.out hb5)
  clear hb5
  go_wp2_with (go_at_call 12; refine (num18_any _ _).mono ?_; rintro e w' ⟨rfl, rfl⟩)
  refine (known18_any _).mono ?_
  rintro e w6 ⟨rfl, hb6⟩
  have HB6 := Lib.hid (Bl.step HB5.out hb6)
  clear hb6
  go_wp2_with fail
  go_ret
  exact ⟨rfl, HB6.out⟩
set_option maxHeartbeats 8000000 in
theorem puts_yes (m : Msg) (hm : m.Ok) (hy : mayM m = true) (w : World) : Calls Tryd.prog 3 #[.agg (mcells m)] w (fun e w' => e = .returned (.bool true) ∧ Below w.heap.size w w') := by
  have hb1 : Below w.heap.size w (w.alloc (.cells (mcells m) 27)) := (Below.refl _ _).alloc (Nat.le_refl _) _
  have HX1 := Lib.hid (heap_alloc_new w (.cells (mcells m) 27))
  have HB1 := Lib.hid hb1
  have HS := Lib.hid (mcells_size hm)
  have HAL := Lib.hid (mcells_all m)
  have HP := Lib.hid (fun u => msg_put_yes m hm hy u)
  have HM := Lib.hid (fun u => mayC m hm u)
  have HRM := Lib.hid (fun u => refMay_any m hm u)
  have HRP := Lib.hid (fun u => refPut_any m hm hy u)
  have hle := putB_len hm hy
  have HRV := Lib.hid (readV_some hle (readM_put hm hy))
  have HEQ := Lib.hid (fun u => msg_eq u m m hm hm)
  rw [msgB_self] at HEQ
  rw [hy] at HM HRM
  have hl1 : w.heap.size < (w.alloc (.cells (mcells m) 27)).heap.size := by simp
  clear hb1 hy
  generalize mcells m = mc at *
  generalize putB m = B at *
  go_enter Tryd.func3, Tryd.ntmps3
  go_wp2_with (refine load_msg HS.out rfl (.tmp 1) rfl w.heap.size rfl HX1.out ?_)
  refine (HP.out _).mono ?_
  generalize w.alloc (.cells mc 27) = w1 at *
  rintro e w2 ⟨g, c, rfl, ho, hb⟩
  have HX2 := Lib.hid ((hb.block _ hl1).trans HX1.out)
  have HB2 := Lib.hid (Bl.step HB1.out hb)
  have HA2 := Lib.hid (own_at ho)
  have hl2 := (Array.getElem?_eq_some_iff.1 HX2.out).1
  clear hb HX1 HB1 hl1 ho HP
  go_wp2_with fail
  refine wp_region_seq (fun _ => False) [] [(0, true), (2, true), (1, false), (3, false), (4, true)] (by kernel_rfl) (by kernel_rfl) (fun _ _ d _ _ h => by cases d <;> exact h) rfl (by kernel_rfl) ?_
  have hx2 : w2.drew.heap[w.heap.size]? = some (.cells mc 27 (0, 0)) := HX2.out
  refine seq_load_msg (some 12) rfl (by kernel_rfl) (by kernel_rfl) (.tmp 1) (by kernel_rfl) w.heap.size mc rfl HS.out (Up.blk hx2 (fun h => h)) ?_
  simp only [Act.put, List.setIfInBounds_toArray, List.set_cons_zero, List.set_cons_succ]
  refine seq_load_msg (some 14) rfl (by kernel_rfl) (by kernel_rfl) (.tmp 1) (by kernel_rfl) w.heap.size mc rfl HS.out (Up.blk hx2 (fun h => h)) ?_
  simp only [Act.put, List.setIfInBounds_toArray, List.set_cons_zero, List.set_cons_succ]
  refine seq_eff rfl (by kernel_rfl) (fun K hK => ?_)
  go_simp
  refine (HM.out _).mono ?_
  rintro e w3 ⟨rfl, hb3⟩
  refine hK.out _ _ (.inl (Ex.below hb3)) ?_
  try simp only [Act.put, List.setIfInBounds_toArray, List.set_cons_zero, List.set_cons_succ]
  clear hK
  have HB3 := Lib.hid (Bl.step HB2.out.drew hb3)
  have HA3 := Lib.hid (At.mono (w := w2.drew) HA2.out hb3)
  have HX3 := Lib.hid ((hb3.block _ hl2).trans hx2)
  have hl3 := (Array.getElem?_eq_some_iff.1 HX3.out).1
  clear hb3 hx2
  refine seq_eff rfl (by kernel_rfl) (fun K hK => ?_)
  go_simp
  refine (HRM.out _).mono ?_
  rintro e w4 ⟨rfl, hb4⟩
  refine hK.out _ _ (.inl (Ex.below hb4)) ?_
  try simp only [Act.put, List.setIfInBounds_toArray, List.set_cons_zero, List.set_cons_succ]
  clear hK
  have HB4 := Lib.hid (Bl.step HB3.out hb4)
  have HA4 := Lib.hid (HA3.out.mono hb4)
  have HX4 := Lib.hid ((hb4.block _ hl3).trans HX3.out)
  have hl4 := (Array.getElem?_eq_some_iff.1 HX4.out).1
  clear hb4 HX2 HX3 HB2 HB3 hl2 hl3 HA2 HA3 HM
  refine seq_at (some 16) (v := ?_) rfl (by kernel_rfl) (by kernel_rfl) ?_ ?_
  rotate_left
  · intro w' hw'
    go_simp
    try with_reducible rfl
  simp only [Act.put, List.setIfInBounds_toArray, List.set_cons_zero, List.set_cons_succ]
  refine seq_nil ?_
  go_wp2_with (refine load_msg HS.out rfl (.tmp 1) rfl w.heap.size rfl HX4.out ?_)
  refine (HRM.out _).mono ?_
  rintro e w5 ⟨rfl, hb5⟩
  have HB5 := Lib.hid (Bl.step HB4.out hb5)
  have HA5 := Lib.hid (HA4.out.mono hb5)
  have HX5 := Lib.hid ((hb5.block _ hl4).trans HX4.out)
  have hl5 := (Array.getElem?_eq_some_iff.1 HX5.out).1
  clear hb5 HB4 HA4 HX4 hl4 HRM
  go_wp2_with fail
  refine (msg_read (some ⟨g, 0, none⟩) c B _ HA5.out (by omega)).mono ?_
  rintro e w6 ⟨rfl, hb6⟩
  rw [HRV.out]
  have hbb := Bl.step (Below.refl w5.heap.size w5) hb6
  have HB6 := Lib.hid (Bl.step HB5.out hb6)
  have HA6 := Lib.hid (HA5.out.mono hb6)
  have HX6 := Lib.hid ((hb6.block _ hl5).trans HX5.out)
  clear hb6 HB5 HA5 HX5 hbb hl5
  go_upto_region 7 with (refine store_new HS.out HAL.out rfl (.tmp 5) (.tmp 34) rfl rfl rfl ?_)
  have hb := (Below.refl w6.heap.size w6).alloc (Nat.le_refl _) (.cells mc 27)
  have HB7 := Lib.hid (Bl.step HB6.out hb)
  have HA7 := Lib.hid (HA6.out.mono hb)
  have HX7 := Lib.hid ((hb.block _ (Array.getElem?_eq_some_iff.1 HX6.out).1).trans HX6.out)
  have HY7 := Lib.hid (heap_alloc_new w6 (.cells mc 27))
  clear hb HB6 HA6 HX6
  generalize w6.alloc (.cells mc 27) = w7 at *
  generalize w6.heap.size = g6 at *
  refine wp_region_seq (fun _ => False) [] [(0, true), (1, true), (2, true), (3, false), (4, true), (5, true), (6, true), (7, true), (8, true), (9, true), (10, true), (11, true), (12, true), (14, true), (13, false), (15, false), (16, true), (17, true), (18, true), (19, true), (20, true), (21, true), (22, true), (23, true), (24, true), (25, false), (26, true), (27, true)] (by kernel_rfl) (by kernel_rfl) (fun _ _ d _ _ h => by cases d <;> exact h) rfl (by kernel_rfl) ?_
  have UA := Lib.hid (Up.bytes (T := fun _ => False) (w := w7.drew) HA7.out (fun _ _ h => h))
  have U : Up (fun _ => False) w7.drew (fun u => (convert 28 9 (.slice (some ⟨g, 0, none⟩) B.length c)).run Tryd.prog u = .ok (.string ⟨B.toArray⟩) u) := UA.out.map (fun u hu => convert_at u _ c B hu)
  have hx7 : w7.drew.heap[w.heap.size]? = some (.cells mc 27 (0, 0)) := HX7.out
  have UX := Lib.hid (Up.blk (T := fun _ => False) hx7 (fun h => h))
  have hy7 : w7.drew.heap[g6]? = some (.cells mc 27 (0, 0)) := HY7.out
  have UY := Lib.hid (Up.blk (T := fun _ => False) hy7 (fun h => h))
  have HB7 := Lib.hid HB7.out.drew
  clear hx7 hy7 HX7 HY7
  generalize w7.drew = W7 at *
  refine seq_at (some 36) (v := ?_) rfl (by kernel_rfl) (by kernel_rfl) ?_ ?_
  rotate_left
  · intro w' hw'
    go_simp
    try with_reducible rfl
  simp only [Act.put, List.setIfInBounds_toArray, List.set_cons_zero, List.set_cons_succ]
  refine seq_at (some 37) (v := ?_) rfl (by kernel_rfl) (by kernel_rfl) ?_ ?_
  rotate_left
  · intro w' hw'
    obtain q0 := U w' hw'
    go_simp
    try with_reducible rfl
  simp only [Act.put, List.setIfInBounds_toArray, List.set_cons_zero, List.set_cons_succ]
  refine seq_load_msg (some 38) rfl (by kernel_rfl) (by kernel_rfl) (.tmp 1) (by kernel_rfl) w.heap.size mc rfl HS.out UX.out ?_
  simp only [Act.put, List.setIfInBounds_toArray, List.set_cons_zero, List.set_cons_succ]
  refine seq_eff rfl (by kernel_rfl) (fun K hK => ?_)
  go_simp
  refine (HRP.out _).mono ?_
  rintro e w8 ⟨g8, c8, rfl, ho8, hb8⟩
  refine hK.out _ _ (.inl (Ex.below hb8)) ?_
  try simp only [Act.put, List.setIfInBounds_toArray, List.set_cons_zero, List.set_cons_succ]
  clear hK
  have UX8 := Lib.hid (UX.out.later (Ex.below hb8))
  have UY8 := Lib.hid (UY.out.later (Ex.below hb8))
  have HB8 := Lib.hid (Bl.step HB7.out hb8)
  have U8 : Up (fun _ => False) w8 (fun u => (convert 28 9 (.slice (some ⟨g8, 0, none⟩) B.length c8)).run Tryd.prog u = .ok (.string ⟨B.toArray⟩) u) := (Up.bytes (T := fun _ => False) (own_at ho8) (fun _ _ h => h)).map (fun u hu => convert_at u _ c8 B hu)
  clear hb8 ho8 HB7 UX UY U UA HRP
  have hd : decide ((B.length : Int) ≤ 256) = true := by simp; omega
  have hwz : IntKind.i64.wrap 0 = 0 := rfl
  refine seq_at (some 40) (v := ?_) rfl (by kernel_rfl) (by kernel_rfl) ?_ ?_
  rotate_left
  · intro w' hw'
    obtain q0 := U8 w' hw'
    go_simp
    try with_reducible rfl
  simp only [Act.put, List.setIfInBounds_toArray, List.set_cons_zero, List.set_cons_succ]
  refine seq_at (some 41) (v := ?_) rfl (by kernel_rfl) (by kernel_rfl) ?_ ?_
  rotate_left
  · intro w' hw'
    go_simp
    try with_reducible rfl
  simp only [Act.put, List.setIfInBounds_toArray, List.set_cons_zero, List.set_cons_succ]
  refine seq_at (some 42) (v := ?_) rfl (by kernel_rfl) (by kernel_rfl) ?_ ?_
  rotate_left
  · intro w' hw'
    go_simp
    try with_reducible rfl
  simp only [Act.put, List.setIfInBounds_toArray, List.set_cons_zero, List.set_cons_succ]
  refine seq_at (some 43) (v := ?_) rfl (by kernel_rfl) (by kernel_rfl) ?_ ?_
  rotate_left
  · intro w' hw'
    go_simp
    try with_reducible rfl
  simp only [Act.put, List.setIfInBounds_toArray, List.set_cons_zero, List.set_cons_succ]
  refine seq_at (some 44) (v := ?_) rfl (by kernel_rfl) (by kernel_rfl) ?_ ?_
  rotate_left
  · intro w' hw'
    go_simp
    try with_reducible rfl
  simp only [Act.put, List.setIfInBounds_toArray, List.set_cons_zero, List.set_cons_succ]
  refine seq_at (some 45) (v := ?_) rfl (by kernel_rfl) (by kernel_rfl) ?_ ?_
  rotate_left
  · intro w' hw'
    go_simp
    try with_reducible rfl
  simp only [Act.put, List.setIfInBounds_toArray, List.set_cons_zero, List.set_cons_succ]
  refine seq_at (some 46) (v := ?_) rfl (by kernel_rfl) (by kernel_rfl) ?_ ?_
  rotate_left
  · intro w' hw'
    go_simp
    try with_reducible rfl
  simp only [Act.put, List.setIfInBounds_toArray, List.set_cons_zero, List.set_cons_succ]
  refine seq_at (some 47) (v := ?_) rfl (by kernel_rfl) (by kernel_rfl) ?_ ?_
  rotate_left
  · intro w' hw'
    go_simp
    try with_reducible rfl
  simp only [Act.put, List.setIfInBounds_toArray, List.set_cons_zero, List.set_cons_succ]
  refine seq_at (some 48) (v := ?_) rfl (by kernel_rfl) (by kernel_rfl) ?_ ?_
  rotate_left
  · intro w' hw'
    go_simp
    try with_reducible rfl
  simp only [Act.put, List.setIfInBounds_toArray, List.set_cons_zero, List.set_cons_succ]
  refine seq_at (some 50) (v := ?_) rfl (by kernel_rfl) (by kernel_rfl) ?_ ?_
  rotate_left
  · intro w' hw'
    go_simp
    try with_reducible rfl
  simp only [Act.put, List.setIfInBounds_toArray, List.set_cons_zero, List.set_cons_succ]
  refine seq_eff rfl (by kernel_rfl) (fun K hK => ?_)
  go_simp
  refine (num18_any _ _).mono ?_
  rintro e w' ⟨rfl, rfl⟩
  refine hK.out _ _ (.inl (Ex.refl _ _)) ?_
  try simp only [Act.put, List.setIfInBounds_toArray, List.set_cons_zero, List.set_cons_succ]
  clear hK
  refine seq_eff rfl (by kernel_rfl) (fun K hK => ?_)
  go_simp
  refine (num18_any _ _).mono ?_
  rintro e w' ⟨rfl, rfl⟩
  refine hK.out _ _ (.inl (Ex.refl _ _)) ?_
  try simp only [Act.put, List.setIfInBounds_toArray, List.set_cons_zero, List.set_cons_succ]
  clear hK
  refine seq_at (some 52) (v := ?_) rfl (by kernel_rfl) (by kernel_rfl) ?_ ?_
  rotate_left
  · intro w' hw'
    go_simp
    try with_reducible rfl
  simp only [Act.put, List.setIfInBounds_toArray, List.set_cons_zero, List.set_cons_succ]
  refine seq_at (some 53) (v := ?_) rfl (by kernel_rfl) (by kernel_rfl) ?_ ?_
  rotate_left
  · intro w' hw'
    go_simp
    try with_reducible rfl
  simp only [Act.put, List.setIfInBounds_toArray, List.set_cons_zero, List.set_cons_succ]
  refine seq_at (some 54) (v := ?_) rfl (by kernel_rfl) (by kernel_rfl) ?_ ?_
  rotate_left
  · intro w' hw'
    go_simp
    try with_reducible rfl
  simp only [Act.put, List.setIfInBounds_toArray, List.set_cons_zero, List.set_cons_succ]
  refine seq_at (some 55) (v := ?_) rfl (by kernel_rfl) (by kernel_rfl) ?_ ?_
  rotate_left
  · intro w' hw'
    go_simp
    try with_reducible rfl
  simp only [Act.put, List.setIfInBounds_toArray, List.set_cons_zero, List.set_cons_succ]
  refine seq_load_msg (some 56) rfl (by kernel_rfl) (by kernel_rfl) (.tmp 5) (by kernel_rfl) g6 mc rfl HS.out UY8.out ?_
  simp only [Act.put, List.setIfInBounds_toArray, List.set_cons_zero, List.set_cons_succ]
  refine seq_load_msg (some 57) rfl (by kernel_rfl) (by kernel_rfl) (.tmp 1) (by kernel_rfl) w.heap.size mc rfl HS.out UX8.out ?_
  simp only [Act.put, List.setIfInBounds_toArray, List.set_cons_zero, List.set_cons_succ]
  have heq := HEQ.out
  refine seq_at (some 58) (v := ?_) rfl (by kernel_rfl) (by kernel_rfl) ?_ ?_
  rotate_left
  · intro w' hw'
    go_simp
    try with_reducible rfl
  simp only [Act.put, List.setIfInBounds_toArray, List.set_cons_zero, List.set_cons_succ]
  refine seq_at (some 59) (v := ?_) rfl (by kernel_rfl) (by kernel_rfl) ?_ ?_
  rotate_left
  · intro w' hw'
    go_simp
    try with_reducible rfl
  simp only [Act.put, List.setIfInBounds_toArray, List.set_cons_zero, List.set_cons_succ]
  refine seq_at (some 60) (v := ?_) rfl (by kernel_rfl) (by kernel_rfl) ?_ ?_
  rotate_left
  · intro w' hw'
    go_simp
    try with_reducible rfl
  simp only [Act.put, List.setIfInBounds_toArray, List.set_cons_zero, List.set_cons_succ]
  refine seq_eff rfl (by kernel_rfl) (fun K hK => ?_)
  go_simp
  refine (known18_any _).mono ?_
  rintro e w9 ⟨rfl, hb9⟩
  refine hK.out _ _ (.inl (Ex.below hb9)) ?_
  try simp only [Act.put, List.setIfInBounds_toArray, List.set_cons_zero, List.set_cons_succ]
  clear hK
  have HB9 := Lib.hid (Bl.step HB8.out hb9)
  clear hb9
  refine seq_at (some 62) (v := ?_) rfl (by kernel_rfl) (by kernel_rfl) ?_ ?_
  rotate_left
  · intro w' hw'
    go_simp
    try with_reducible rfl
  simp only [Act.put, List.setIfInBounds_toArray, List.set_cons_zero, List.set_cons_succ]
  refine seq_at (some 2) (v := ?_) rfl (by kernel_rfl) (by kernel_rfl) ?_ ?_
  rotate_left
  · intro w' hw'
    go_simp
    try with_reducible rfl
  simp only [Act.put, List.setIfInBounds_toArray, List.set_cons_zero, List.set_cons_succ]
  refine seq_nil ?_
  go_wp2_with fail
  go_ret
  exact ⟨rfl, HB9.out⟩
theorem puts_any (m : Msg) (hm : m.Ok) (w : World) : Calls Tryd.prog 3 #[.agg (mcells m)] w (fun e w' => e = .returned (.bool true) ∧ Below w.heap.size w w') := by
  cases h : mayM m with
  | false => exact puts_no m hm h w
  | true => exact puts_yes m hm h w
end Go.Proofs.YtemmdlanidepbaaDoor
