/- Contracts of bytes.TrimRight at a nought, and of message.bare. Contracts of Put's closures: the form of each field. -/
import Derived.Test.YtemmdlanidepbaaDoorBig
import Derived.Test.YtemmdlanidepbaaDoorMsgCells
namespace Go.Proofs.YtemmdlanidepbaaDoor
open Go.RowKit
set_option linter.unusedSimpArgs false
set_option maxRecDepth 100000

/-- how many there are but the noughts at the end, of the first n -/
def blen (l : List UInt8) : Nat → Nat
  | 0 => 0
  | n + 1 => if l[n]? = some 0 then blen l n else n + 1
theorem blen_le (l : List UInt8) : ∀ n, blen l n ≤ n
  | 0 => Nat.le_refl _
  | n + 1 => by
    rw [blen]
    split
    · have := blen_le l n; omega
    · omega
/-- all but the noughts at the end -/
def bareB (l : List UInt8) : List UInt8 := l.take (blen l l.length)
theorem cut_bytes (w : World) (g n c k : Nat) (h : k ≤ c) : (Instr.slice 28 (.slice (some ⟨g, 0, none⟩) n c) none (some (.int .i64 (k : Int))) none).run Tryd.prog w = .ok (.slice (some ⟨g, 0, none⟩) k c) w := by
  rw [run_slice_h w 28 _ n c (by kernel_rfl) .i64 (k : Int) (by omega) (by omega)]
  rw [show (sizeOf (Tryd.prog.elem 28)).run Tryd.prog w = .ok 1 w by kernel_rfl]
  simp only [Result.andThen, sliced, Int.toNat_natCast, Nat.sub_zero, Nat.zero_mul]
  congr 2
  split <;> rfl

theorem trim_any (g c : Nat) (l : List UInt8) (w : World) (hA : At w (some ⟨g, 0, none⟩) (bv l)) (hc : l.length ≤ c) (hl : l.length ≤ 1000) :
    Calls Tryd.prog 86 #[.slice (some ⟨g, 0, none⟩) l.length c, .int .u8 0] w (fun e w' => e = .returned (.slice (some ⟨g, 0, none⟩) (blen l l.length) c) ∧ w = w') := by
  go_enter Tryd.func86, Tryd.ntmps86
  go_wp2
  go_loopg [0] l.length (fun kk s wr => ∃ j : Nat, s = .slice (some ⟨g, 0, none⟩) j c ∧ Hid (j ≤ kk ∧ j ≤ l.length ∧ blen l j = blen l l.length) ∧ w = wr)
  case atStart => exact ⟨l.length, rfl, ⟨Nat.le_refl _, Nat.le_refl _, rfl⟩, rfl⟩
  case round =>
    obtain ⟨j, rfl, hj, rfl⟩ := hrel
    cases j with
    | zero =>
      have e : blen l l.length = 0 := hj.out.2.2.symm
      go_wp2
      go_ret
      exact ⟨by rw [e]; rfl, rfl⟩
    | succ j =>
      have hlt : j < l.length := by have := hj.out; omega
      have hjc : j ≤ c := by omega
      obtain ⟨x, hx⟩ : ∃ x, l[j] = x := ⟨_, rfl⟩
      obtain ⟨ad, e, hcell⟩ := hA j (.int .u8 (x.toNat : Int)) (by simp [bv, List.getElem?_eq_getElem hlt, hx])
      injection e with e
      subst e
      rw [add0] at hcell
      have hj1 : j ≤ 1000 := by omega
      by_cases hx0 : x = 0
      · have e0 : ((x.toNat : Int) == 0) = true := by simp [hx0]
        have hb : blen l (j + 1) = blen l j := by rw [blen, if_pos (by rw [List.getElem?_eq_getElem hlt, hx, hx0])]
        have HB := Lib.hid (hb.symm.trans hj.out.2.2)
        clear hb hx hx0
        go_wp2_with fail
        go_roundg (gk - 1)
        case measure => have := hj.out; omega
        case rel => exact ⟨j, rfl, ⟨(by have := hj.out; omega), (by omega), HB.out⟩, rfl⟩
      · have e0 : ((x.toNat : Int) == 0) = false := by
          have : x.toNat ≠ 0 := fun e => hx0 (UInt8.toNat_inj.1 e)
          simp [this]
        have hb : blen l (j + 1) = j + 1 := by rw [blen, if_neg (by rw [List.getElem?_eq_getElem hlt, hx]; simp [hx0])]
        have HB := Lib.hid (hb.symm.trans hj.out.2.2)
        clear hb hx hx0
        go_wp2_with fail
        go_ret
        exact ⟨by rw [← HB.out]; rfl, rfl⟩
theorem trimRight_any (g c : Nat) (l : List UInt8) (w : World) (hA : At w (some ⟨g, 0, none⟩) (bv l)) (hc : l.length ≤ c) (hl : l.length = 96) :
    Calls Tryd.prog 68 #[.slice (some ⟨g, 0, none⟩) 96 c, .string ⟨#[0]⟩] w (fun e w' => e = .returned (.slice (some ⟨g, 0, none⟩) (blen l l.length) c) ∧ w = w') := by
  have HT := trim_any g c l w hA hc (by omega)
  rw [hl] at HT ⊢
  have HT' := Lib.hid HT
  clear HT hl
  go_enter Tryd.func68, Tryd.ntmps68
  go_wp2_with fail
  refine HT'.out.mono ?_
  rintro e w' ⟨rfl, rfl⟩
  go_wp2_with fail
  go_ret
  exact ⟨rfl, rfl⟩
/-- the bare bytes lie in a new block -/
theorem bare_any (l : List UInt8) (hl : l.length = 96) (w : World) :
    Calls Tryd.prog 40 #[.agg (bodyV l)] w (fun e w' => ∃ g, e = .returned (.slice (some ⟨g, 0, none⟩) (bareB l).length 96) ∧ At w' (some ⟨g, 0, none⟩) (bv (bareB l)) ∧ Below w.heap.size w w') := by
  go_enter Tryd.func40, Tryd.ntmps40
  have hA : At (w.alloc (.cells (bodyV l) 25)) (some ⟨w.heap.size, 0, none⟩) (bv l) := fun j u hj => ⟨_, rfl, by rw [add0]; simpa [bodyV] using hj⟩
  have HA := Lib.hid hA
  have HB : Hid (Below w.heap.size w (w.alloc (.cells (bodyV l) 25))) := (Below.refl _ _).alloc (Nat.le_refl _) _
  go_wp2_with fail
  refine (trimRight_any w.heap.size 96 l _ HA.out (by omega) hl).mono ?_
  rintro e w' ⟨rfl, rfl⟩
  go_wp2_with fail
  go_ret
  have hle := blen_le l l.length
  have e : (bareB l).length = blen l l.length := by unfold bareB; rw [List.length_take]; omega
  refine ⟨w.heap.size, by rw [e, hl]; rfl, fun j u hj => HA.out j u ?_, HB.out⟩
  simp only [bareB, bv, List.getElem?_map, List.getElem?_take] at hj ⊢
  split at hj
  · exact hj
  · cases hj
end Go.Proofs.YtemmdlanidepbaaDoor
namespace Go.Proofs.YtemmdlanidepbaaDoor
open Go.RowKit
set_option linter.unusedSimpArgs false
set_option maxRecDepth 100000

/-- a field's form -/
def fieldB (m : Msg) (f : Int) : List UInt8 :=
  if f = 1 then enc m.page.toNat else if f = 2 then enc m.op.toNat else if f = 3 then enc m.mode.toNat else if f = 4 then enc m.dest.toNat else if f = 5 then enc m.psn.toNat else if f = 6 then flg m.dirty else encB (bareB m.body)
theorem num_form (z : Int) (h0 : 0 ≤ z) (h1 : z ≤ 9223372036854775807) : ((z.toNat : Nat) : Int) = z ∧ U64 z.toNat ∧ IntKind.u64.wrap z = z := by
  refine ⟨Int.toNat_of_nonneg h0, by unfold U64; omega, by rw [IntKind.wrap_u64]; omega⟩
section
variable (m : Msg) (hm : m.Ok) (g : Nat) (w : World) (hc : MCells w g m)
include hm hc
theorem form1 (h : 0 ≤ m.page) : Calls Tryd.prog 30 #[.pointer (some ⟨g, 0, none⟩)] w (NewRow w (enc m.page.toNat)) := by
  obtain ⟨e1, e2, e3⟩ := num_form m.page h hm.page.2
  have hcell := hc.c1
  have HN := Lib.hid (number_any _ e2 w)
  rw [e1] at HN
  clear e1
  go_enter Tryd.func30, Tryd.ntmps30
  go_wp2_with fail
  refine HN.out.mono ?_
  rintro e w1 ⟨g1, c1, rfl, ho, hb⟩
  go_wp2_with fail
  go_ret
  exact ⟨g1, c1, rfl, ho, hb⟩
theorem form2 (h : 0 ≤ m.op) : Calls Tryd.prog 32 #[.pointer (some ⟨g, 0, none⟩)] w (NewRow w (enc m.op.toNat)) := by
  obtain ⟨e1, e2, e3⟩ := num_form m.op h hm.op.2
  have hcell := hc.c2
  have HN := Lib.hid (number_any _ e2 w)
  rw [e1] at HN
  clear e1
  go_enter Tryd.func32, Tryd.ntmps32
  go_wp2_with fail
  refine HN.out.mono ?_
  rintro e w1 ⟨g1, c1, rfl, ho, hb⟩
  go_wp2_with fail
  go_ret
  exact ⟨g1, c1, rfl, ho, hb⟩
theorem form3 (h : 0 ≤ m.mode) : Calls Tryd.prog 33 #[.pointer (some ⟨g, 0, none⟩)] w (NewRow w (enc m.mode.toNat)) := by
  obtain ⟨e1, e2, e3⟩ := num_form m.mode h hm.mode.2
  have hcell := hc.c3
  have HN := Lib.hid (number_any _ e2 w)
  rw [e1] at HN
  clear e1
  go_enter Tryd.func33, Tryd.ntmps33
  go_wp2_with fail
  refine HN.out.mono ?_
  rintro e w1 ⟨g1, c1, rfl, ho, hb⟩
  go_wp2_with fail
  go_ret
  exact ⟨g1, c1, rfl, ho, hb⟩
theorem form4 (h : 0 ≤ m.dest) : Calls Tryd.prog 34 #[.pointer (some ⟨g, 0, none⟩)] w (NewRow w (enc m.dest.toNat)) := by
  obtain ⟨e1, e2, e3⟩ := num_form m.dest h hm.dest.2
  have hcell := hc.c4
  have HN := Lib.hid (number_any _ e2 w)
  rw [e1] at HN
  clear e1
  go_enter Tryd.func34, Tryd.ntmps34
  go_wp2_with fail
  refine HN.out.mono ?_
  rintro e w1 ⟨g1, c1, rfl, ho, hb⟩
  go_wp2_with fail
  go_ret
  exact ⟨g1, c1, rfl, ho, hb⟩
theorem form5 (h : 0 ≤ m.psn) : Calls Tryd.prog 35 #[.pointer (some ⟨g, 0, none⟩)] w (NewRow w (enc m.psn.toNat)) := by
  obtain ⟨e1, e2, e3⟩ := num_form m.psn h hm.psn.2
  have hcell := hc.c5
  have HN := Lib.hid (number_any _ e2 w)
  rw [e1] at HN
  clear e1
  go_enter Tryd.func35, Tryd.ntmps35
  go_wp2_with fail
  refine HN.out.mono ?_
  rintro e w1 ⟨g1, c1, rfl, ho, hb⟩
  go_wp2_with fail
  go_ret
  exact ⟨g1, c1, rfl, ho, hb⟩
omit hm in
theorem form6 : Calls Tryd.prog 36 #[.pointer (some ⟨g, 0, none⟩)] w (NewRow w (flg m.dirty)) := by
  have hcell := hc.c6
  have HN := Lib.hid (flag_any m.dirty w)
  go_enter Tryd.func36, Tryd.ntmps36
  go_wp2_with fail
  refine HN.out.mono ?_
  rintro e w1 ⟨g1, c1, rfl, ho, hb⟩
  go_wp2_with fail
  go_ret
  exact ⟨g1, c1, rfl, ho, hb⟩
set_option maxHeartbeats 2000000 in
theorem form7 : Calls Tryd.prog 38 #[.pointer (some ⟨g, 0, none⟩)] w (NewRow w (encB (bareB m.body))) := by
  have HC := Lib.hid hc.bodyAt
  have hlb : (bareB m.body).length ≤ 96 := by unfold bareB; rw [List.length_take]; have := hm.body; omega
  go_enter Tryd.func38, Tryd.ntmps38
  go_wp2_with fail
  refine wp_load_cells 25 _ rfl ⟨g, 7, none⟩ rfl (bodyV m.body) (body_load hm.body HC.out) ?_
  go_at_K
  go_wp2_with fail
  refine (bare_any m.body hm.body w).mono ?_
  rintro e w1 ⟨g1, rfl, hA, hb⟩
  go_wp2_with fail
  refine (bytes_any (some ⟨g1, 0, none⟩) 96 (bareB m.body) _ hA (by omega)).mono ?_
  rintro e w2 ⟨g2, c2, rfl, ho, hb2⟩
  go_wp2_with fail
  go_ret
  exact ⟨g2, c2, rfl, own_lower ho hb.size, Bl.step hb hb2⟩
end
end Go.Proofs.YtemmdlanidepbaaDoor
