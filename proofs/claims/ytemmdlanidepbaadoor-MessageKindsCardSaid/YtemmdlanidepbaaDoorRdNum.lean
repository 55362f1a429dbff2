/- Contract of wire.Reader's Number. -/
import Derived.Test.YtemmdlanidepbaaDoorRd
import Derived.Test.YtemmdlanidepbaaDoorDec
namespace Go.Proofs.YtemmdlanidepbaaDoor
open Go.RowKit

/-- what a reader's Number leaves -/
def NumRead (w : World) (g : Nat) (l : List UInt8) (pos : Nat) (e : Ending) (w' : World) : Prop :=
  match dec 0 0 (l.drop pos) with
  | some (x, k) => e = .returned (.tuple #[.int .u64 (x : Int), .int .i64 0]) ∧ ∃ n, w' = (w.drewN n).setCell ⟨g, 1, none⟩ (.int .i64 ((pos + k : Nat) : Int))
  | none => e = .returned (.tuple #[.int .u64 0, .int .i64 4]) ∧ ∃ n, w' = w.drewN n
theorem NumRead.mk_some {w : World} {g : Nat} {l : List UInt8} {pos x k n : Nat} {X Y : Int} (hd : dec 0 0 (l.drop pos) = some (x, k)) (hX : X = (x : Int)) (hY : Y = ((pos + k : Nat) : Int)) :
    NumRead w g l pos (.returned (.tuple #[.int .u64 X, .int .i64 0])) ((w.drewN n).setCell ⟨g, 1, none⟩ (.int .i64 Y)) := by
  subst hX
  subst hY
  unfold NumRead
  rw [hd]
  exact ⟨rfl, _, rfl⟩
theorem NumRead.mk_none {w : World} {g : Nat} {l : List UInt8} {pos n : Nat} (hd : dec 0 0 (l.drop pos) = none) :
    NumRead w g l pos (.returned (.tuple #[.int .u64 0, .int .i64 4])) (w.drewN n) := by
  unfold NumRead
  rw [hd]
  exact ⟨rfl, _, rfl⟩

set_option maxRecDepth 100000 in
set_option maxHeartbeats 1000000 in
theorem rdNumber (w : World) (g : Nat) (ad : Addr) (c : Nat) (l : List UInt8) (pos : Nat) (h : Rdr w g ad c l pos) :
    Calls Tryd.prog 75 #[.pointer (some ⟨g, 0, none⟩)] w (NumRead w g l pos) := by
  have h0 := h.cell0
  have h1 := h.cell1
  have hp := h.pos_le
  have hl := h.len
  have hf := h.free 1
  go_enter Tryd.func75, Tryd.ntmps75
  go_wp2_with fail
  go_step3
  go_wp2_with fail
  refine (there_yes _ _ _ _ _ h0).mono ?_
  rintro e w' ⟨rfl, rfl⟩
  go_wp2_with fail
  go_quiet (fail)
  go_wp2
  go_step3
  go_wp2
  go_loopg [4, 5, 6] 10 (fun k n a s wr => ∃ i acc : Nat, n = .int .u64 (acc : Int) ∧ a = .int .i64 ((pos + i : Nat) : Int) ∧ s = .int .u64 ((7 * i : Nat) : Int) ∧ i ≤ 9 ∧ pos + i ≤ l.length ∧ wr = w.drewN nq ∧ Hid (i + k = 10 ∧ acc < 2 ^ (7 * i) ∧ dec i acc (l.drop (pos + i)) = dec 0 0 (l.drop pos)))
  case atStart => exact ⟨0, 0, rfl, rfl, rfl, by omega, hp, rfl, by simp, by simp, rfl⟩
  case round =>
    obtain ⟨i, acc, rfl, rfl, rfl, hi, hpi, rfl, hd⟩ := hrel
    by_cases hlt : pos + i < l.length
    · obtain ⟨b, hb⟩ : ∃ b : UInt8, l[pos + i] = b := ⟨_, rfl⟩
      have Hb := Lib.hid (show l.drop (pos + i) = b :: l.drop (pos + (i + 1)) by rw [List.drop_eq_getElem_cons hlt, hb]; rfl)
      have hcell : w.cell? (ad.add (pos + i)) = some (.int .u8 (b.toNat : Int)) := by
        obtain ⟨ad', e, hc⟩ := h.bytes (pos + i) (.int .u8 (b.toNat : Int)) (by simp [bv, List.getElem?_eq_getElem hlt, hb])
        injection e with e
        subst e
        exact hc
      have hbl : b.toNat < 256 := b.toNat_lt
      clear hb
      obtain ⟨q, hq⟩ : ∃ q : Nat, q = b.toNat := ⟨_, rfl⟩
      rw [← hq] at hcell hbl
      have Hq := Lib.hid hq
      clear hq
      by_cases hst : i = 9 ∧ 1 < q ∨ 0 < i ∧ q = 0
      · have hfin := Lib.hid (show dec 0 0 (l.drop pos) = none by rw [← hd.out.2.2, Hb.out]; exact dec_stop (by rw [← Hq.out]; exact hst))
        rcases hst with ⟨h9', hq1⟩ | ⟨hi1, hq0⟩
        · have h9 : 9 ≤ i := by omega
          clear h9'
          go_wp2
          all_goals ((try rw [Exit.noGoto_ret]); go_ret2; exact NumRead.mk_none hfin.out)
        · obtain rfl := hq0
          by_cases h9 : 9 ≤ i
          · go_wp2
            all_goals ((try rw [Exit.noGoto_ret]); go_ret2; exact NumRead.mk_none hfin.out)
          · go_wp2
            all_goals ((try rw [Exit.noGoto_ret]); go_ret2; exact NumRead.mk_none hfin.out)
      · have HD := Lib.hid (digit acc i q hi hbl (by omega) hd.out.2.1)
        have Hst := Lib.hid hst
        by_cases hq : q < 128
        · have hfin := Lib.hid (show dec 0 0 (l.drop pos) = some (acc + q % 128 * 2 ^ (7 * i), i + 1) by rw [← hd.out.2.2, Hb.out, Hq.out]; exact dec_last (by rw [← Hq.out]; exact Hst.out) (by rw [← Hq.out]; exact hq))
          clear hst
          by_cases h9 : 9 ≤ i
          · have hq1 : q ≤ 1 := by have := Hst.out; omega
            have hq2 : 1 ≤ q := by have := Hst.out; omega
            have hb1 : decide ((1 : Int) < (q : Int)) = false := by simp; omega
            have hb2 : ((q : Int) == 0) = false := by simp; omega
            go_wp2
            all_goals ((try rw [Exit.noGoto_ret]); go_ret2; obtain rfl : 9 = i := (by omega); have e2 := HD.out.2.2; rw [show (2 : Int) ^ (7 * 9) = 9223372036854775808 from by decide] at e2; exact NumRead.mk_some hfin.out e2 rfl)
          · have hq1 : i = 0 ∨ 0 < q := by have := Hst.out; omega
            go_wp2
            all_goals ((try rw [Exit.noGoto_ret]); go_ret2; exact NumRead.mk_some hfin.out HD.out.2.2 (by omega))
        · have hq1 : 128 ≤ q := by omega
          have h8 : i ≤ 8 := by have := Hst.out; omega
          have hnx := Lib.hid (show dec (i + 1) (acc + q % 128 * 2 ^ (7 * i)) (l.drop (pos + (i + 1))) = dec 0 0 (l.drop pos) by rw [← hd.out.2.2, Hb.out, Hq.out]; exact (dec_next (by rw [← Hq.out]; exact Hst.out) (by rw [← Hq.out]; omega)).symm)
          clear hst
          go_wp2
          all_goals
            go_roundg (gk - 1)
            case measure => have := hd.out.1; omega
            case rel => exact ⟨i + 1, _, congrArg (Value.int .u64) HD.out.2.2, (by go_num), (by go_num), (by omega), (by omega), rfl, (by have := hd.out.1; omega), (by have := HD.out.2.1; omega), hnx.out⟩
    · have hfin := Lib.hid (show dec 0 0 (l.drop pos) = none by rw [← hd.out.2.2, List.drop_eq_nil_of_le (by omega)]; rfl)
      go_wp2
      (try rw [Exit.noGoto_ret])
      go_ret2
      exact NumRead.mk_none hfin.out
end Go.Proofs.YtemmdlanidepbaaDoor
