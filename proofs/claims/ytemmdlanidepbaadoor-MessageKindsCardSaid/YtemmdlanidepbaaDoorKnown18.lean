/- Contract of the message law's known(): the chapter's rows hold. -/
import Derived.Test.YtemmdlanidepbaaDoorRows18
import Derived.Test.YtemmdlanidepbaaDoorSeqMsg
namespace Go.Proofs.YtemmdlanidepbaaDoor
open Go.RowKit
set_option linter.unusedSimpArgs false
set_option maxRecDepth 100000

def W0 : Msg := ⟨7, 1, 2, 1, 0, 5, true, List.replicate 96 0⟩
theorem W0_ok : W0.Ok := ⟨i64c _ rfl, i64c _ rfl, i64c _ rfl, i64c _ rfl, i64c _ rfl, i64c _ rfl, rfl⟩
theorem c0 : (((((Tryd.zeroCells27.setIfInBounds 0 (.int .i64 7)).setIfInBounds 1 (.int .i64 1)).setIfInBounds 2 (.int .i64 2)).setIfInBounds 3 (.int .i64 1)).setIfInBounds 5 (.int .i64 5)).setIfInBounds 6 (.bool true) = mcells W0 := by kernel_rfl
theorem c0b : (mcells W0).setIfInBounds 7 (.int .u8 120) = mcells W2 := by kernel_rfl
theorem cw3 : (Tryd.zeroCells27.setIfInBounds 0 (.int .i64 8)).setIfInBounds 1 (.int .i64 1) = mcells W3 := by kernel_rfl
theorem cw4 : (((Tryd.zeroCells27.setIfInBounds 0 (.int .i64 8)).setIfInBounds 1 (.int .i64 1)).setIfInBounds 2 (.int .i64 1)).setIfInBounds 4 (.int .i64 1) = mcells W4 := by kernel_rfl

set_option maxHeartbeats 8000000 in
theorem known18_any (w : World) : Calls Tryd.prog 13 #[] w (fun e w' => e = .returned (.bool true) ∧ Below w.heap.size w w') := by
  go_enter Tryd.func13, Tryd.ntmps13
  go_upto_region 2 with (refine store_new (mcells_size W1_ok) (mcells_all _) rfl (.tmp 1) (.tmp 21) rfl rfl (congrArg Value.agg c1) ?_)
  have hb1 : Below w.heap.size w (w.alloc (.cells (mcells W1) 27)) := (Below.refl _ _).alloc (Nat.le_refl _) _
  have HX1 := Lib.hid (heap_alloc_new w (.cells (mcells W1) 27))
  have hl1 : w.heap.size < (w.alloc (.cells (mcells W1) 27)).heap.size := by simp
  have HB1 := Lib.hid hb1
  clear hb1
  generalize w.alloc (.cells (mcells W1) 27) = w1 at *
  go_upto_region 3 with (refine store_new (mcells_size W0_ok) (mcells_all _) rfl (.tmp 2) (.tmp 22) rfl rfl (congrArg Value.agg c0) ?_)
  have e7 : (mcells W0)[7]? = some (.int .u8 0) := by kernel_rfl
  go_upto_region 4 with (fail)
  rw [c0b]
  have hb := (Below.refl w1.heap.size w1).alloc (Nat.le_refl _) (.cells (mcells W2) 27)
  have HX2 := Lib.hid ((hb.block _ hl1).trans HX1.out)
  have HY2 := Lib.hid (heap_alloc_new w1 (.cells (mcells W2) 27))
  have HB2 := Lib.hid (Bl.step HB1.out hb)
  have hx2 : w.heap.size < (w1.alloc (.cells (mcells W2) 27)).heap.size := (Array.getElem?_eq_some_iff.1 HX2.out).1
  have hy2 : w1.heap.size < (w1.alloc (.cells (mcells W2) 27)).heap.size := by simp
  clear hb HX1 HB1 e7
  generalize w1.alloc (.cells (mcells W2) 27) = w2 at *
  go_wp2_with (refine load_msg (mcells_size W1_ok) rfl (.tmp 1) rfl w.heap.size rfl HX2.out ?_)
  refine (msg_put_yes W1 W1_ok W1_may _).mono ?_
  rw [W1_put]
  rintro e w3 ⟨g3, c3, rfl, ho, hb⟩
  have HA3 := Lib.hid (own_at ho)
  have HX3 := Lib.hid ((hb.block _ hx2).trans HX2.out)
  have HY3 := Lib.hid ((hb.block _ hy2).trans HY2.out)
  have HB3 := Lib.hid (Bl.step HB2.out hb)
  have hx3 : w.heap.size < w3.heap.size := (Array.getElem?_eq_some_iff.1 HX3.out).1
  clear ho hb HX2 HY2 HB2 hy2
  go_wp2_with (refine load_msg (mcells_size W2_ok) rfl (.tmp 2) rfl w1.heap.size rfl HY3.out ?_)
  refine (msg_put_yes W2 W2_ok W2_may _).mono ?_
  rw [W2_put]
  rintro e w4 ⟨g4, c4, rfl, ho, hb⟩
  have HA4 := Lib.hid (own_at ho)
  have HC4 := Lib.hid (HA3.out.mono hb)
  have HX4 := Lib.hid ((hb.block _ hx3).trans HX3.out)
  have HB4 := Lib.hid (Bl.step HB3.out hb)
  have hx4 : w.heap.size < w4.heap.size := (Array.getElem?_eq_some_iff.1 HX4.out).1
  clear ho hb HX3 HY3 HB3 HA3 hx3
  simp only [List.length_cons, List.length_nil, Nat.zero_add, Nat.reduceAdd] at *
  go_wp2_with fail
  have hlit5 := at_lit w4 [1, 3, 2] _ rfl
  refine (msg_read _ 3 [1, 3, 2] _ hlit5 (by decide)).mono ?_
  rintro e v5 ⟨rfl, hb⟩
  have hbb := Bl.step ((Below.refl w4.heap.size w4).alloc (Nat.le_refl _) _) hb
  rw [r1]
  have HAa := Lib.hid (HA4.out.mono hbb)
  have HCa := Lib.hid (HC4.out.mono hbb)
  have HXa := Lib.hid ((hbb.block _ hx4).trans HX4.out)
  have HBa := Lib.hid (Bl.step HB4.out hbb)
  have hs5 : w4.heap.size ≤ v5.heap.size := hbb.size
  clear hlit5 hb hbb HA4 HC4 HX4 HB4
  go_upto_region 7 with (refine store_new (mcells_size W1_ok) (mcells_all _) rfl (.tmp 7) (.tmp 38) rfl rfl rfl ?_)
  have hb := (Below.refl v5.heap.size v5).alloc (Nat.le_refl _) (.cells (mcells W1) 27)
  have HA5 := Lib.hid (HAa.out.mono hb)
  have HC5 := Lib.hid (HCa.out.mono hb)
  have HX5 := Lib.hid ((hb.block _ (by omega)).trans HXa.out)
  have HB5 := Lib.hid (Bl.step HBa.out hb)
  have hx5 : w.heap.size < (v5.alloc (.cells (mcells W1) 27)).heap.size := (Array.getElem?_eq_some_iff.1 HX5.out).1
  have HR5 := Lib.hid (heap_alloc_new v5 (.cells (mcells W1) 27))
  have hr5 : v5.heap.size < (v5.alloc (.cells (mcells W1) 27)).heap.size := by simp
  obtain ⟨gr, hgr⟩ : ∃ gr, gr = v5.heap.size := ⟨_, rfl⟩
  rw [← hgr] at HR5 hr5 ⊢
  clear hgr
  clear hb HAa HCa HXa HBa hx4 hs5
  generalize v5.alloc (.cells (mcells W1) 27) = w5 at *
  go_wp2_with fail
  have hlit6 := at_lit w5 [1, 3, 3] _ rfl
  refine (msg_read _ 3 [1, 3, 3] _ hlit6 (by decide)).mono ?_
  rintro e v6 ⟨rfl, hb⟩
  have hbb := Bl.step ((Below.refl w5.heap.size w5).alloc (Nat.le_refl _) _) hb
  rw [(readV_none (by decide) r2)]
  have HAa := Lib.hid (HA5.out.mono hbb)
  have HCa := Lib.hid (HC5.out.mono hbb)
  have HXa := Lib.hid ((hbb.block _ hx5).trans HX5.out)
  have HBa := Lib.hid (Bl.step HB5.out hbb)
  have HRa := Lib.hid ((hbb.block _ hr5).trans HR5.out)
  have hs6 : w5.heap.size ≤ v6.heap.size := hbb.size
  clear hlit6 hb hbb HA5 HC5 HX5 HB5 HR5
  go_upto_region 8 with (refine store_new zero_size zero_all rfl (.tmp 9) (.tmp 43) rfl rfl rfl ?_)
  have hb := (Below.refl v6.heap.size v6).alloc (Nat.le_refl _) (.cells (Tryd.zeroCells27) 27)
  have HA6 := Lib.hid (HAa.out.mono hb)
  have HC6 := Lib.hid (HCa.out.mono hb)
  have HX6 := Lib.hid ((hb.block _ (by omega)).trans HXa.out)
  have HB6 := Lib.hid (Bl.step HBa.out hb)
  have hx6 : w.heap.size < (v6.alloc (.cells (Tryd.zeroCells27) 27)).heap.size := (Array.getElem?_eq_some_iff.1 HX6.out).1
  have HR6 := Lib.hid ((hb.block _ (by omega)).trans HRa.out)
  have hr6 : gr < (v6.alloc (.cells (Tryd.zeroCells27) 27)).heap.size := (Array.getElem?_eq_some_iff.1 HR6.out).1
  clear hb HAa HCa HXa HBa HRa hr5 hx5 hs6
  generalize v6.alloc (.cells (Tryd.zeroCells27) 27) = w6 at *
  go_wp2_with fail
  have hlit7 := at_lit w6 [1, 3, 2, 0] _ rfl
  refine (msg_read _ 4 [1, 3, 2, 0] _ hlit7 (by decide)).mono ?_
  rintro e v7 ⟨rfl, hb⟩
  have hbb := Bl.step ((Below.refl w6.heap.size w6).alloc (Nat.le_refl _) _) hb
  rw [(readV_none (by decide) r3)]
  have HAa := Lib.hid (HA6.out.mono hbb)
  have HCa := Lib.hid (HC6.out.mono hbb)
  have HXa := Lib.hid ((hbb.block _ hx6).trans HX6.out)
  have HBa := Lib.hid (Bl.step HB6.out hbb)
  have HRa := Lib.hid ((hbb.block _ hr6).trans HR6.out)
  have hs7 : w6.heap.size ≤ v7.heap.size := hbb.size
  clear hlit7 hb hbb HA6 HC6 HX6 HB6 HR6
  go_upto_region 9 with (refine store_new zero_size zero_all rfl (.tmp 11) (.tmp 48) rfl rfl rfl ?_)
  have hb := (Below.refl v7.heap.size v7).alloc (Nat.le_refl _) (.cells (Tryd.zeroCells27) 27)
  have HA7 := Lib.hid (HAa.out.mono hb)
  have HC7 := Lib.hid (HCa.out.mono hb)
  have HX7 := Lib.hid ((hb.block _ (by omega)).trans HXa.out)
  have HB7 := Lib.hid (Bl.step HBa.out hb)
  have hx7 : w.heap.size < (v7.alloc (.cells (Tryd.zeroCells27) 27)).heap.size := (Array.getElem?_eq_some_iff.1 HX7.out).1
  have HR7 := Lib.hid ((hb.block _ (by omega)).trans HRa.out)
  have hr7 : gr < (v7.alloc (.cells (Tryd.zeroCells27) 27)).heap.size := (Array.getElem?_eq_some_iff.1 HR7.out).1
  clear hb HAa HCa HXa HBa HRa hr6 hx6 hs7
  generalize v7.alloc (.cells (Tryd.zeroCells27) 27) = w7 at *
  go_wp2_with fail
  have hlit8 := at_lit w7 [1, 16, 1] _ rfl
  refine (msg_read _ 3 [1, 16, 1] _ hlit8 (by decide)).mono ?_
  rintro e v8 ⟨rfl, hb⟩
  have hbb := Bl.step ((Below.refl w7.heap.size w7).alloc (Nat.le_refl _) _) hb
  rw [(readV_none (by decide) r4)]
  have HAa := Lib.hid (HA7.out.mono hbb)
  have HCa := Lib.hid (HC7.out.mono hbb)
  have HXa := Lib.hid ((hbb.block _ hx7).trans HX7.out)
  have HBa := Lib.hid (Bl.step HB7.out hbb)
  have HRa := Lib.hid ((hbb.block _ hr7).trans HR7.out)
  have hs8 : w7.heap.size ≤ v8.heap.size := hbb.size
  clear hlit8 hb hbb HA7 HC7 HX7 HB7 HR7
  go_upto_region 10 with (refine store_new zero_size zero_all rfl (.tmp 13) (.tmp 53) rfl rfl rfl ?_)
  have hb := (Below.refl v8.heap.size v8).alloc (Nat.le_refl _) (.cells (Tryd.zeroCells27) 27)
  have HA8 := Lib.hid (HAa.out.mono hb)
  have HC8 := Lib.hid (HCa.out.mono hb)
  have HX8 := Lib.hid ((hb.block _ (by omega)).trans HXa.out)
  have HB8 := Lib.hid (Bl.step HBa.out hb)
  have hx8 : w.heap.size < (v8.alloc (.cells (Tryd.zeroCells27) 27)).heap.size := (Array.getElem?_eq_some_iff.1 HX8.out).1
  have HR8 := Lib.hid ((hb.block _ (by omega)).trans HRa.out)
  have hr8 : gr < (v8.alloc (.cells (Tryd.zeroCells27) 27)).heap.size := (Array.getElem?_eq_some_iff.1 HR8.out).1
  clear hb HAa HCa HXa HBa HRa hr7 hx7 hs8
  generalize v8.alloc (.cells (Tryd.zeroCells27) 27) = w8 at *
  go_wp2_with fail
  have hlit9 := at_lit w8 [7, 1, 2, 1, 5, 1, 1, 0] _ rfl
  refine (msg_read _ 8 [7, 1, 2, 1, 5, 1, 1, 0] _ hlit9 (by decide)).mono ?_
  rintro e v9 ⟨rfl, hb⟩
  have hbb := Bl.step ((Below.refl w8.heap.size w8).alloc (Nat.le_refl _) _) hb
  rw [(readV_none (by decide) r5)]
  have HAa := Lib.hid (HA8.out.mono hbb)
  have HCa := Lib.hid (HC8.out.mono hbb)
  have HXa := Lib.hid ((hbb.block _ hx8).trans HX8.out)
  have HBa := Lib.hid (Bl.step HB8.out hbb)
  have HRa := Lib.hid ((hbb.block _ hr8).trans HR8.out)
  have hs9 : w8.heap.size ≤ v9.heap.size := hbb.size
  clear hlit9 hb hbb HA8 HC8 HX8 HB8 HR8
  go_upto_region 11 with (refine store_new zero_size zero_all rfl (.tmp 15) (.tmp 58) rfl rfl rfl ?_)
  have hb := (Below.refl v9.heap.size v9).alloc (Nat.le_refl _) (.cells (Tryd.zeroCells27) 27)
  have HA9 := Lib.hid (HAa.out.mono hb)
  have HC9 := Lib.hid (HCa.out.mono hb)
  have HX9 := Lib.hid ((hb.block _ (by omega)).trans HXa.out)
  have HB9 := Lib.hid (Bl.step HBa.out hb)
  have hx9 : w.heap.size < (v9.alloc (.cells (Tryd.zeroCells27) 27)).heap.size := (Array.getElem?_eq_some_iff.1 HX9.out).1
  have HR9 := Lib.hid ((hb.block _ (by omega)).trans HRa.out)
  have hr9 : gr < (v9.alloc (.cells (Tryd.zeroCells27) 27)).heap.size := (Array.getElem?_eq_some_iff.1 HR9.out).1
  clear hb HAa HCa HXa HBa HRa hr8 hx8 hs9
  generalize v9.alloc (.cells (Tryd.zeroCells27) 27) = w9 at *
  go_wp2_with fail
  refine (num18_any _ _).mono ?_
  rintro e w' ⟨rfl, rfl⟩
  go_wp2_with fail
  rw [cw3]
  refine (msg_put_no W3 W3_ok W3_may _).mono ?_
  rintro e w10 ⟨rfl, hb⟩
  have HA10 := Lib.hid (HA9.out.mono hb)
  have HC10 := Lib.hid (HC9.out.mono hb)
  have HX10 := Lib.hid ((hb.block _ hx9).trans HX9.out)
  have HB10 := Lib.hid (Bl.step HB9.out hb)
  have HR10 := Lib.hid ((hb.block _ hr9).trans HR9.out)
  have hx10 : w.heap.size < w10.heap.size := (Array.getElem?_eq_some_iff.1 HX10.out).1
  have hr10 : gr < w10.heap.size := (Array.getElem?_eq_some_iff.1 HR10.out).1
  clear hb HA9 HC9 HX9 HB9 HR9 hx9 hr9
  go_wp2_with fail
  rw [cw4]
  refine (msg_put_no W4 W4_ok W4_may _).mono ?_
  rintro e w11 ⟨rfl, hb⟩
  have HA11 := HA10.out.mono hb
  have HC11 := HC10.out.mono hb
  have HX11 := Lib.hid ((hb.block _ hx10).trans HX10.out)
  have HB11 := Lib.hid (Bl.step HB10.out hb)
  have HR11 := Lib.hid ((hb.block _ hr10).trans HR10.out)
  have k1 := convert_at _ _ c4 _ HA11
  have k2 := convert_at _ _ c3 _ HC11
  simp only [List.length_cons, List.length_nil, Nat.zero_add, Nat.reduceAdd] at k1 k2
  have HM := Lib.hid (fun u => msg_eq u W1 W1 W1_ok W1_ok)
  rw [msgB_self] at HM
  have HS1 := Lib.hid (mcells_size W1_ok)
  clear hb HA10 HC10 HX10 HB10 HR10 hx10 hr10 HA11 HC11
  generalize mcells W1 = mc1 at *
  have hm := HM.out
  go_wp2_with (go_at_call 12; refine (num18_any _ _).mono ?_; rintro e w' ⟨rfl, rfl⟩)
  refine wp_load_row 27 (.tmp 7) rfl gr rfl 27 mc1 (0, 0) _ HR11.out Tryd.underlying27 rfl (infoMsg.trans (congrArg some HS1.out.symm)) ?_
  go_at_K
  go_wp2_with fail
  refine wp_load_row 27 (.tmp 1) rfl w.heap.size rfl 27 mc1 (0, 0) _ HX11.out Tryd.underlying27 rfl (infoMsg.trans (congrArg some HS1.out.symm)) ?_
  go_at_K
  go_wp2_with (go_at_call 12; refine (num18_any _ _).mono ?_; rintro e w' ⟨rfl, rfl⟩)
  refine (name_any 13 _).mono ?_
  rintro e w12 ⟨rfl, hb⟩
  have HB12 := Lib.hid (Bl.step HB11.out hb)
  rw [show nameOf 13 = ⟨#[100, 105, 115, 99, 97, 114, 100]⟩ from rfl]
  clear hb
  go_wp2_with fail
  refine (name_any 14 _).mono ?_
  rintro e w13 ⟨rfl, hb⟩
  have HB13 := Lib.hid (Bl.step HB12.out hb)
  rw [show nameOf 14 = ⟨#[]⟩ from rfl]
  clear hb
  go_wp2_with fail
  go_ret
  exact ⟨rfl, HB13.out⟩
end Go.Proofs.YtemmdlanidepbaaDoor
