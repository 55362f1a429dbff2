/- Contracts of Put's closures: the form of each field. -/
import Derived.Test.YtemmdlanidepbaaDoorBare
import Derived.Test.YtemmdlanidepbaaDoorMsgCells
namespace Go.Proofs.YtemmdlanidepbaaDoor
open Go.RowKit
set_option linter.unusedSimpArgs false
set_option maxRecDepth 100000

/-- a field's form -/
def fieldB (m : Msg) (f : Int) : List UInt8 :=
  if f = 1 then enc m.page.toNat else if f = 2 then enc m.op.toNat else if f = 3 then enc m.mode.toNat else if f = 4 then enc m.dest.toNat else if f = 5 then enc m.psn.toNat else if f = 6 then flg m.dirty else encB (bareB m.body)
theorem num_form (z : Int) (h0 : 0 ≤ z) (h1 : z ≤ 9223372036854775807) : ((z.toNat : Nat) : Int) = z ∧ U64 z.toNat ∧ IntKind.u64.wrap z = z := by
  refine ⟨Int.toNat_of_nonneg h0, by unfold U64; omega, by rw [IntKind.wrap_u64]; omega⟩
section
variable (m : Msg) (hm : m.Ok) (g : Nat) (w : World) (hc : MCells w g m)
include hm hc
theorem form1 (h : 0 ≤ m.page) : Calls Tryd.prog 30 #[.pointer (some ⟨g, 0, none⟩)] w (NewRow w (enc m.page.toNat)) := by
  obtain ⟨e1, e2, e3⟩ := num_form m.page h hm.page.2
  have hcell := hc.c1
  have HN := Lib.hid (number_any _ e2 w)
  rw [e1] at HN
  clear e1
  go_enter Tryd.func30, Tryd.ntmps30
  go_wp2_with fail
  refine HN.out.mono ?_
  rintro e w1 ⟨g1, c1, rfl, ho, hb⟩
  go_wp2_with fail
  go_ret
  exact ⟨g1, c1, rfl, ho, hb⟩
theorem form2 (h : 0 ≤ m.op) : Calls Tryd.prog 32 #[.pointer (some ⟨g, 0, none⟩)] w (NewRow w (enc m.op.toNat)) := by
  obtain ⟨e1, e2, e3⟩ := num_form m.op h hm.op.2
  have hcell := hc.c2
  have HN := Lib.hid (number_any _ e2 w)
  rw [e1] at HN
  clear e1
  go_enter Tryd.func32, Tryd.ntmps32
  go_wp2_with fail
  refine HN.out.mono ?_
  rintro e w1 ⟨g1, c1, rfl, ho, hb⟩
  go_wp2_with fail
  go_ret
  exact ⟨g1, c1, rfl, ho, hb⟩
theorem form3 (h : 0 ≤ m.mode) : Calls Tryd.prog 33 #[.pointer (some ⟨g, 0, none⟩)] w (NewRow w (enc m.mode.toNat)) := by
  obtain ⟨e1, e2, e3⟩ := num_form m.mode h hm.mode.2
  have hcell := hc.c3
  have HN := Lib.hid (number_any _ e2 w)
  rw [e1] at HN
  clear e1
  go_enter Tryd.func33, Tryd.ntmps33
  go_wp2_with fail
  refine HN.out.mono ?_
  rintro e w1 ⟨g1, c1, rfl, ho, hb⟩
  go_wp2_with fail
  go_ret
  exact ⟨g1, c1, rfl, ho, hb⟩
theorem form4 (h : 0 ≤ m.dest) : Calls Tryd.prog 34 #[.pointer (some ⟨g, 0, none⟩)] w (NewRow w (enc m.dest.toNat)) := by
  obtain ⟨e1, e2, e3⟩ := num_form m.dest h hm.dest.2
  have hcell := hc.c4
  have HN := Lib.hid (number_any _ e2 w)
  rw [e1] at HN
  clear e1
  go_enter Tryd.func34, Tryd.ntmps34
  go_wp2_with fail
  refine HN.out.mono ?_
  rintro e w1 ⟨g1, c1, rfl, ho, hb⟩
  go_wp2_with fail
  go_ret
  exact ⟨g1, c1, rfl, ho, hb⟩
theorem form5 (h : 0 ≤ m.psn) : Calls Tryd.prog 35 #[.pointer (some ⟨g, 0, none⟩)] w (NewRow w (enc m.psn.toNat)) := by
  obtain ⟨e1, e2, e3⟩ := num_form m.psn h hm.psn.2
  have hcell := hc.c5
  have HN := Lib.hid (number_any _ e2 w)
  rw [e1] at HN
  clear e1
  go_enter Tryd.func35, Tryd.ntmps35
  go_wp2_with fail
  refine HN.out.mono ?_
  rintro e w1 ⟨g1, c1, rfl, ho, hb⟩
  go_wp2_with fail
  go_ret
  exact ⟨g1, c1, rfl, ho, hb⟩
omit hm in
theorem form6 : Calls Tryd.prog 36 #[.pointer (some ⟨g, 0, none⟩)] w (NewRow w (flg m.dirty)) := by
  have hcell := hc.c6
  have HN := Lib.hid (flag_any m.dirty w)
  go_enter Tryd.func36, Tryd.ntmps36
  go_wp2_with fail
  refine HN.out.mono ?_
  rintro e w1 ⟨g1, c1, rfl, ho, hb⟩
  go_wp2_with fail
  go_ret
  exact ⟨g1, c1, rfl, ho, hb⟩
set_option maxHeartbeats 2000000 in
theorem form7 : Calls Tryd.prog 38 #[.pointer (some ⟨g, 0, none⟩)] w (NewRow w (encB (bareB m.body))) := by
  have HC := Lib.hid hc.bodyAt
  have hlb : (bareB m.body).length ≤ 96 := by unfold bareB; rw [List.length_take]; have := hm.body; omega
  go_enter Tryd.func38, Tryd.ntmps38
  go_wp2_with fail
  refine wp_load_cells 25 _ rfl ⟨g, 7, none⟩ rfl (bodyV m.body) (body_load hm.body HC.out) ?_
  go_at_K
  go_wp2_with fail
  refine (bare_any m.body hm.body w).mono ?_
  rintro e w1 ⟨g1, rfl, hA, hb⟩
  go_wp2_with fail
  refine (bytes_any (some ⟨g1, 0, none⟩) 96 (bareB m.body) _ hA (by omega)).mono ?_
  rintro e w2 ⟨g2, c2, rfl, ho, hb2⟩
  go_wp2_with fail
  go_ret
  exact ⟨g2, c2, rfl, own_lower ho hb.size, Bl.step hb hb2⟩
end
end Go.Proofs.YtemmdlanidepbaaDoor
