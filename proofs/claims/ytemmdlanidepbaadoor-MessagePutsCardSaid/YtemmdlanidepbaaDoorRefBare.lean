/- Contract of millpondref03.Bare. -/
import Derived.Test.YtemmdlanidepbaaDoorBare
namespace Go.Proofs.YtemmdlanidepbaaDoor
open Go.RowKit
set_option linter.unusedSimpArgs false
set_option maxRecDepth 100000

set_option maxHeartbeats 4000000 in
theorem refBare_any (l : List UInt8) (hl : l.length = 96) (w : World) :
    Calls Tryd.prog 58 #[.agg (bodyV l)] w (fun e w' => ∃ A c, e = .returned (.slice A (bareB l).length c) ∧ At w' A (bv (bareB l)) ∧ Below w.heap.size w w') := by
  go_enter Tryd.func58, Tryd.ntmps58
  have hA : At (w.alloc (.cells (bodyV l) 25)) (some ⟨w.heap.size, 0, none⟩) (bv l) := fun j u hj => ⟨_, rfl, by rw [add0]; simpa [bodyV] using hj⟩
  have HA := Lib.hid hA
  have HB : Hid (Below w.heap.size w (w.alloc (.cells (bodyV l) 25))) := Lib.hid ((Below.refl _ _).alloc (Nat.le_refl _) _)
  have hlt0 : w.heap.size < (w.alloc (.cells (bodyV l) 25)).heap.size := by simp
  clear hA
  go_wp2_with fail
  generalize w.alloc (.cells (bodyV l) 25) = w0 at *
  go_loopg [3] 96 (fun kk s wr => ∃ j : Nat, s = .int .i64 (j : Int) ∧ Hid (j ≤ kk ∧ j ≤ 96 ∧ blen l j = blen l l.length) ∧ w0 = wr)
  case atStart => exact ⟨96, rfl, ⟨Nat.le_refl _, Nat.le_refl _, by rw [hl]⟩, rfl⟩
  case round =>
    obtain ⟨j, rfl, hj, rfl⟩ := hrel
    by_cases h0 : j = 0
    · subst h0
      have hle := blen_le l l.length
      have hn : Hid (blen l l.length = 0) := Lib.hid (by rw [← hj.out.2.2]; rfl)
      have hj96 : 0 ≤ 96 := hj.out.2.1
      go_wp2_with fail
      go_loopg [4, 5] 0 (fun kk v ix wr => ∃ q : Nat, ix = .int .i64 (q : Int) ∧ Hid (q + kk = 0 ∧ q ≤ 0) ∧ wr.ownsRow w0.heap.size 5 1 v (l.take q).length (bv (l.take q)) ∧ Hid (Below w0.heap.size w0 wr))
      case atStart => exact ⟨0, rfl, ⟨Nat.zero_add _, Nat.zero_le _⟩, World.ownsRow_nil _ _ _ _, Below.refl _ _⟩
      case round =>
        obtain ⟨q, rfl, hq, ho, HBr⟩ := hrel
        have hlq : (l.take q).length = q := by rw [List.length_take]; have := hq.out; omega
        have HLQ := Lib.hid hlq
        by_cases hlt : q < 0
        · omega
        · have hqj : q = 0 := by have := hq.out; omega
          have e : l.take q = bareB l := by unfold bareB; rw [hn.out, hqj]
          have HE := Lib.hid e
          clear hlq e
          go_wp2_with fail
          go_ret
          rw [HE.out] at ho
          obtain ⟨A, c, rfl, _⟩ := own_form ho
          exact ⟨A, c, rfl, own_at ho, HB.out.trans (HBr.out.mono (Nat.le_of_lt hlt0))⟩
    · have hlt : j - 1 < l.length := by have := hj.out; omega
      obtain ⟨x, hx⟩ : ∃ x, l[j - 1] = x := ⟨_, rfl⟩
      obtain ⟨ad, e, hcell⟩ := HA.out (j - 1) (.int .u8 (x.toNat : Int)) (by simp [bv, List.getElem?_eq_getElem hlt, hx])
      injection e with e
      subst e
      rw [add0] at hcell
      have hj1 : 0 < j := by omega
      obtain ⟨i, hi⟩ : ∃ i, j = i + 1 := ⟨j - 1, by omega⟩
      subst hi
      simp only [Nat.add_sub_cancel] at hcell hlt hx
      have hi96 : i < 96 := by have := hj.out; omega
      by_cases hx0 : x = 0
      · have e0 : ((x.toNat : Int) == 0) = true := by simp [hx0]
        have hb : blen l (i + 1) = blen l i := by rw [blen, if_pos (by rw [List.getElem?_eq_getElem hlt, hx, hx0])]
        have HB2 := Lib.hid (hb.symm.trans hj.out.2.2)
        clear hb hx hx0
        go_wp2_with fail
        go_roundg (gk - 1)
        case measure => have := hj.out; omega
        case rel => exact ⟨i, (by go_num), ⟨(by have := hj.out; omega), (by omega), HB2.out⟩, rfl⟩
      · have e0 : ((x.toNat : Int) == 0) = false := by
          have : x.toNat ≠ 0 := fun e => hx0 (UInt8.toNat_inj.1 e)
          simp [this]
        have hb : blen l (i + 1) = i + 1 := by rw [blen, if_neg (by rw [List.getElem?_eq_getElem hlt, hx]; simp [hx0])]
        have HB2 := Lib.hid hb
        clear hb hx hx0
        have hle := blen_le l l.length
        have hn : Hid (blen l l.length = i + 1) := Lib.hid (by rw [← hj.out.2.2]; exact HB2.out)
        have hj96 : i + 1 ≤ 96 := hj.out.2.1
        go_wp2_with fail
        go_loopg [4, 5] (i + 1) (fun kk v ix wr => ∃ q : Nat, ix = .int .i64 (q : Int) ∧ Hid (q + kk = i + 1 ∧ q ≤ i + 1) ∧ wr.ownsRow w0.heap.size 5 1 v (l.take q).length (bv (l.take q)) ∧ Hid (Below w0.heap.size w0 wr))
        case atStart => exact ⟨0, rfl, ⟨Nat.zero_add _, Nat.zero_le _⟩, World.ownsRow_nil _ _ _ _, Below.refl _ _⟩
        case round =>
          obtain ⟨q, rfl, hq, ho, HBr⟩ := hrel
          have hlq : (l.take q).length = q := by rw [List.length_take]; have := hq.out; omega
          have HLQ := Lib.hid hlq
          by_cases hlt : q < i + 1
          · obtain ⟨x, hx⟩ : ∃ x, l[q] = x := ⟨_, rfl⟩
            obtain ⟨ad, e, hcell⟩ := (HA.out.mono HBr.out) q (.int .u8 (x.toNat : Int)) (by simp [bv, List.getElem?_eq_getElem (show q < l.length by omega), hx])
            injection e with e
            subst e
            rw [add0] at hcell
            have hll : (l.take q).length ≤ 96 := by omega
            have hts := List.take_succ_eq_append_getElem (l := l) (i := q) (by omega)
            rw [hx] at hts
            have HTS := Lib.hid hts
            clear hts hx hlq
            generalize hlz : l.take q = lz at *
            have HLZ := Lib.hid hlz
            clear hlz
            go_wp2_with (first | (at_builtin; refine app_byte rfl _ _ 28 rfl w0.heap.size 5 Tryd.underlying28 infoU8 _ lz rfl ho _ x rfl rfl (by omega) HBr.out.size ?_; intro v' w' ho' hg hv))
            go_roundg (gk - 1)
            case measure => have := hq.out; omega
            case rel => exact ⟨q + 1, (by go_num), ⟨(by have := hq.out; omega), (by omega)⟩, (by rw [HTS.out]; exact ho'), Bl.grown HBr.out hg (fun k hk => (ho.lt k hk).1)⟩
          · have hqj : q = i + 1 := by have := hq.out; omega
            have e : l.take q = bareB l := by unfold bareB; rw [hn.out, hqj]
            have HE := Lib.hid e
            clear hlq e
            go_wp2_with fail
            go_ret
            rw [HE.out] at ho
            obtain ⟨A, c, rfl, _⟩ := own_form ho
            exact ⟨A, c, rfl, own_at ho, HB.out.trans (HBr.out.mono (Nat.le_of_lt hlt0))⟩
end Go.Proofs.YtemmdlanidepbaaDoor
