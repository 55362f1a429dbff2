/- Contracts of millpondref01.Reader: Left, Number. -/
import Derived.Test.YtemmdlanidepbaaDoorRdMore
namespace Go.Proofs.YtemmdlanidepbaaDoor
open Go.RowKit
set_option linter.unusedSimpArgs false

/-- block g is a reader of the document's over the bytes l, which lie where the caller's do, at 'pos' -/
structure RRdr (w : World) (g : Nat) (A : Option Addr) (c : Nat) (l : List UInt8) (pos : Nat) : Prop where
  blk : w.heap[g]? = some (.cells #[.slice A l.length c, .int .i64 (pos : Int)] 93 (0, 0))
  bytes : At w A (bv l)
  pos_le : pos ≤ l.length
  len : l.length ≤ 140737488355328
  cap : l.length ≤ c
  apart : ∀ ad, A = some ad → ad.block ≠ g

section
variable {w : World} {g : Nat} {A : Option Addr} {c : Nat} {l : List UInt8} {pos : Nat}
theorem RRdr.cell0 (h : RRdr w g A c l pos) : w.cell? ⟨g, 0, none⟩ = some (.slice A l.length c) := by simp [World.cell?, h.blk]
theorem RRdr.cell1 (h : RRdr w g A c l pos) : w.cell? ⟨g, 1, none⟩ = some (.int .i64 (pos : Int)) := by simp [World.cell?, h.blk]
theorem RRdr.free (h : RRdr w g A c l pos) (i : Nat) : w.frozen? ⟨g, i, none⟩ = false := by simp [World.frozen?, h.blk]
theorem RRdr.lt (h : RRdr w g A c l pos) : g < w.heap.size := (Array.getElem?_eq_some_iff.1 h.blk).1
/-- behind a store of another place -/
theorem RRdr.set (h : RRdr w g A c l pos) (p : Nat) (hp : p ≤ l.length) : RRdr (w.setCell ⟨g, 1, none⟩ (.int .i64 (p : Int))) g A c l p := by
  refine ⟨?_, fun j u hj => ?_, hp, h.len, h.cap, h.apart⟩
  · simp only [World.setCell, Array.getElem?_modify, if_true, h.blk, Option.map_some]
    simp
  · obtain ⟨ad', e, hc⟩ := h.bytes j u hj
    refine ⟨ad', e, ?_⟩
    rw [World.cell?_of_block (w := w) (Below.heap_setCell _ _ _ _ (by rw [add_block]; exact h.apart ad' e))]
    exact hc
theorem RRdr.drewN (h : RRdr w g A c l pos) (n : Nat) : RRdr (w.drewN n) g A c l pos := ⟨h.blk, h.bytes, h.pos_le, h.len, h.cap, h.apart⟩
theorem RRdr.move {w1 : World} (h : RRdr w g A c l pos) {row : Option Nat} (hg : w.grownBy w1 row) (h1 : some g ≠ row) (h2 : ∀ ad, A = some ad → some ad.block ≠ row) : RRdr w1 g A c l pos :=
  ⟨(hg.block g h.lt h1).trans h.blk, h.bytes.grown hg h2, h.pos_le, h.len, h.cap, h.apart⟩
theorem RRdr.below {w1 : World} (h : RRdr w g A c l pos) (hb : Below w.heap.size w w1) : RRdr w1 g A c l pos := h.move (grown_of_below hb none) (by simp) (by simp)
theorem RRdr.at (h : RRdr w g A c l pos) (j : Nat) (hj : j < l.length) : ∃ ad, A = some ad ∧ w.cell? (ad.add j) = some (.int .u8 ((l[j]).toNat : Int)) :=
  h.bytes j _ (by simp [bv, List.getElem?_eq_getElem hj])
end

/-- two results, and a reader (block g) that stands at pos; no other block has turned -/
def RRd2 (w : World) (g : Nat) (A : Option Addr) (c : Nat) (l : List UInt8) (pos : Nat) (v1 v2 : Value) (e : Ending) (w' : World) : Prop :=
  e = .returned (.tuple #[v1, v2]) ∧ RRdr w' g A c l pos ∧ w.grownBy w' (some g)

theorem refLeft (w : World) (g : Nat) (A : Option Addr) (c : Nat) (l : List UInt8) (pos : Nat) (h : RRdr w g A c l pos) :
    Calls Tryd.prog 80 #[.pointer (some ⟨g, 0, none⟩)] w (fun e w' => e = .returned (.int .i64 ((l.length - pos : Nat) : Int)) ∧ ∃ n, w' = w.drewN n) := by
  have h0 := h.cell0
  have h1 := h.cell1
  have hp := h.pos_le
  have hl := h.len
  have e1 := Lib.hid (show ((l.length : Int) - pos) = ((l.length - pos : Nat) : Int) by omega)
  go_enter Tryd.func80, Tryd.ntmps80
  go_wp2_with fail
  go_quiet (fail)
  go_wp2
  go_ret
  exact ⟨congrArg (fun x => Ending.returned (Value.int .i64 x)) e1.out, _, rfl⟩

theorem ref_digit {acc i q : Nat} (h : acc + q % 128 * 2 ^ (7 * i) < 18446744073709551616) : IntKind.u64.wrap ((acc : Int) + IntKind.u64.wrap ((q : Int) % 128 * 2 ^ (7 * i))) = ((acc + q % 128 * 2 ^ (7 * i) : Nat) : Int) := by
  have e3 : ((q : Int) % 128) * 2 ^ (7 * i) = ((q % 128 * 2 ^ (7 * i) : Nat) : Int) := by rw [Int.natCast_mul, Int.natCast_pow]; rfl
  rw [e3, IntKind.wrap_u64, IntKind.wrap_u64]
  omega
set_option maxRecDepth 100000 in
set_option maxHeartbeats 4000000 in
theorem refNumber_rd (w : World) (g : Nat) (A : Option Addr) (c : Nat) (l : List UInt8) (pos : Nat) (h : RRdr w g A c l pos) :
    Calls Tryd.prog 79 #[.pointer (some ⟨g, 0, none⟩)] w (NumRead w g l pos) := by
  have h0 := h.cell0
  have h1 := h.cell1
  have hp := h.pos_le
  have hl := h.len
  have hf := h.free 1
  go_enter Tryd.func79, Tryd.ntmps79
  go_wp2
  go_loopg [4, 5] 10 (fun k n s wr => ∃ i acc m : Nat, n = .int .u64 (acc : Int) ∧ s = .int .i64 (i : Int) ∧ i ≤ 9 ∧ pos + i ≤ l.length ∧ wr = w.drewN m ∧ Hid (i + k = 10 ∧ acc < 2 ^ (7 * i) ∧ dec i acc (l.drop (pos + i)) = dec 0 0 (l.drop pos)))
  case atStart => exact ⟨0, 0, 0, rfl, rfl, by omega, hp, rfl, by simp, by simp, rfl⟩
  case round =>
    obtain ⟨i, acc, m, rfl, rfl, hi, hpi, rfl, hd⟩ := hrel
    have hd10 : decide ((i : Int) < 10) = true := by simp; omega
    have hw1 : IntKind.i64.wrap ((pos : Int) + i) = (pos : Int) + i := IntWalk.i64_in _ (by omega)
    by_cases hlt : pos + i < l.length
    · obtain ⟨b, hb⟩ : ∃ b : UInt8, l[pos + i] = b := ⟨_, rfl⟩
      have Hb := Lib.hid (show l.drop (pos + i) = b :: l.drop (pos + (i + 1)) by rw [List.drop_eq_getElem_cons hlt, hb]; rfl)
      obtain ⟨ad, rfl, hcell⟩ := h.at (pos + i) hlt
      rw [hb] at hcell
      have hbl : b.toNat < 256 := b.toNat_lt
      clear hb
      obtain ⟨q, hq⟩ : ∃ q : Nat, q = b.toNat := ⟨_, rfl⟩
      rw [← hq] at hcell hbl
      have Hq := Lib.hid hq
      clear hq
      rcases Classical.em (i = 9 ∧ 1 < q ∨ 0 < i ∧ q = 0) with hst | hst
      all_goals replace hst := Lib.hid hst
      · have hfin := Lib.hid (show dec 0 0 (l.drop pos) = none by rw [← hd.out.2.2, Hb.out]; exact dec_stop (by rw [← Hq.out]; exact hst.out))
        rcases hst.out with ⟨h9, hq1⟩ | ⟨hi1, hq0⟩
        · have hA : ((i : Int) == 9) = true := by simp; omega
          have hB : decide ((1 : Int) < (q : Int)) = true := by simp; omega
          clear h9 hq1
          clear hst
          go_wp2_with fail
          go_quiet (fail)
          go_wp2_with fail
          go_quiet (fail)
          go_wp2_with fail
          all_goals ((try rw [Exit.noGoto_ret]); go_ret2; exact NumRead.mk_none hfin.out)
        · by_cases h9 : i = 9
          · have hA : ((i : Int) == 9) = true := by simp; omega
            have hB : decide ((1 : Int) < (q : Int)) = false := by simp; omega
            have hC : 0 < i := by omega
            have hD : ((q : Int) == 0) = true := by simp; omega
            clear h9 hi1 hq0
            clear hst
            go_wp2_with fail
            go_quiet (fail)
            go_wp2_with fail
            go_quiet (fail)
            go_wp2_with fail
            all_goals ((try rw [Exit.noGoto_ret]); go_ret2; exact NumRead.mk_none hfin.out)
          · have hA : ((i : Int) == 9) = false := by simp; omega
            have hC : 0 < i := by omega
            have hD : ((q : Int) == 0) = true := by simp; omega
            clear h9 hi1 hq0
            clear hst
            go_wp2_with fail
            go_quiet (fail)
            go_wp2_with fail
            go_quiet (fail)
            go_wp2_with fail
            all_goals ((try rw [Exit.noGoto_ret]); go_ret2; exact NumRead.mk_none hfin.out)
      · have hdig := digit acc i q hi hbl (by have := hst.out; omega) hd.out.2.1
        have HD := Lib.hid (show IntKind.u64.wrap ((acc : Int) + IntKind.u64.wrap ((q : Int) % 128 * 2 ^ (7 * i))) = ((acc + q % 128 * 2 ^ (7 * i) : Nat) : Int) from ref_digit hdig.1)
        by_cases hq : q < 128
        · have hfin := Lib.hid (show dec 0 0 (l.drop pos) = some (acc + q % 128 * 2 ^ (7 * i), i + 1) by rw [← hd.out.2.2, Hb.out, Hq.out]; exact dec_last (by rw [← Hq.out]; exact hst.out) (by rw [← Hq.out]; exact hq))
          clear hdig
          by_cases h9 : i = 9
          · have hq1 : q = 1 := by have := hst.out; omega
            have hA : ((i : Int) == 9) = true := by simp; omega
            have hB : decide ((1 : Int) < (q : Int)) = false := by simp; omega
            have hC : 0 < i := by omega
            have hD : ((q : Int) == 0) = false := by simp; omega
            have hE : decide ((q : Int) < 128) = true := by simp; omega
            clear h9 hq1
            clear hst
            go_wp2_with fail
            go_quiet (fail)
            go_wp2_with fail
            go_quiet (fail)
            go_wp2_with fail
            all_goals ((try rw [Exit.noGoto_ret]); rw [HD.out]; go_ret2; exact NumRead.mk_some hfin.out rfl (by omega))
          · by_cases h0 : i = 0
            · have hA : ((i : Int) == 9) = false := by simp; omega
              have hC : ¬ 0 < i := by omega
              have hE : decide ((q : Int) < 128) = true := by simp; omega
              clear h9 h0
              clear hst
              go_wp2_with fail
              go_quiet (fail)
              go_wp2_with fail
              go_quiet (fail)
              go_wp2_with fail
              all_goals ((try rw [Exit.noGoto_ret]); rw [HD.out]; go_ret2; exact NumRead.mk_some hfin.out rfl (by omega))
            · have hq1 : 0 < q := by have := hst.out; omega
              have hA : ((i : Int) == 9) = false := by simp; omega
              have hC : 0 < i := by omega
              have hD : ((q : Int) == 0) = false := by simp; omega
              have hE : decide ((q : Int) < 128) = true := by simp; omega
              clear h9 h0 hq1
              clear hst
              go_wp2_with fail
              go_quiet (fail)
              go_wp2_with fail
              go_quiet (fail)
              go_wp2_with fail
              all_goals ((try rw [Exit.noGoto_ret]); rw [HD.out]; go_ret2; exact NumRead.mk_some hfin.out rfl (by omega))
        · have hnx := Lib.hid (show dec (i + 1) (acc + q % 128 * 2 ^ (7 * i)) (l.drop (pos + (i + 1))) = dec 0 0 (l.drop pos) by rw [← hd.out.2.2, Hb.out, Hq.out]; exact (dec_next (by rw [← Hq.out]; exact hst.out) (by rw [← Hq.out]; exact hq)).symm)
          have hlt2 := Lib.hid (hdig.2.1.resolve_left hq)
          have h8 : i ≤ 8 := by have := hst.out; omega
          clear hdig
          by_cases h0 : i = 0
          · have hA : ((i : Int) == 9) = false := by simp; omega
            have hC : ¬ 0 < i := by omega
            have hE : decide ((q : Int) < 128) = false := by simp; omega
            clear h0
            clear hst
            go_wp2_with fail
            go_quiet (fail)
            go_wp2_with fail
            go_quiet (fail)
            go_wp2_with fail
            go_roundg (gk - 1)
            case measure => have := hd.out.1; omega
            case rel => exact ⟨i + 1, _, _, congrArg (Value.int .u64) HD.out, (by go_num), (by omega), (by omega), rfl, (by have := hd.out.1; omega), hlt2.out, hnx.out⟩
          · have hA : ((i : Int) == 9) = false := by simp; omega
            have hC : 0 < i := by omega
            have hD : ((q : Int) == 0) = false := by simp; omega
            have hE : decide ((q : Int) < 128) = false := by simp; omega
            clear h0
            clear hst
            go_wp2_with fail
            go_quiet (fail)
            go_wp2_with fail
            go_quiet (fail)
            go_wp2_with fail
            go_roundg (gk - 1)
            case measure => have := hd.out.1; omega
            case rel => exact ⟨i + 1, _, _, congrArg (Value.int .u64) HD.out, (by go_num), (by omega), (by omega), rfl, (by have := hd.out.1; omega), hlt2.out, hnx.out⟩
    · have hfin := Lib.hid (show dec 0 0 (l.drop pos) = none by rw [← hd.out.2.2, List.drop_eq_nil_of_le (by omega)]; rfl)
      go_wp2_with fail
      go_quiet (fail)
      go_wp2_with fail
      (try rw [Exit.noGoto_ret])
      (try rw [World.drewN_drewN])
      go_ret2
      exact NumRead.mk_none hfin.out
end Go.Proofs.YtemmdlanidepbaaDoor
