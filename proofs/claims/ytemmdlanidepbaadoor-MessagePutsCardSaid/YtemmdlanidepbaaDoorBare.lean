/- Contracts of bytes.TrimRight at a nought, and of message.bare. -/
import Derived.Test.YtemmdlanidepbaaDoorBig
namespace Go.Proofs.YtemmdlanidepbaaDoor
open Go.RowKit
set_option linter.unusedSimpArgs false
set_option maxRecDepth 100000

/-- how many there are but the noughts at the end, of the first n -/
def blen (l : List UInt8) : Nat → Nat
  | 0 => 0
  | n + 1 => if l[n]? = some 0 then blen l n else n + 1
theorem blen_le (l : List UInt8) : ∀ n, blen l n ≤ n
  | 0 => Nat.le_refl _
  | n + 1 => by
    rw [blen]
    split
    · have := blen_le l n; omega
    · omega
/-- all but the noughts at the end -/
def bareB (l : List UInt8) : List UInt8 := l.take (blen l l.length)
theorem cut_bytes (w : World) (g n c k : Nat) (h : k ≤ c) : (Instr.slice 28 (.slice (some ⟨g, 0, none⟩) n c) none (some (.int .i64 (k : Int))) none).run Tryd.prog w = .ok (.slice (some ⟨g, 0, none⟩) k c) w := by
  rw [run_slice_h w 28 _ n c (by kernel_rfl) .i64 (k : Int) (by omega) (by omega)]
  rw [show (sizeOf (Tryd.prog.elem 28)).run Tryd.prog w = .ok 1 w by kernel_rfl]
  simp only [Result.andThen, sliced, Int.toNat_natCast, Nat.sub_zero, Nat.zero_mul]
  congr 2
  split <;> rfl

theorem trim_any (g c : Nat) (l : List UInt8) (w : World) (hA : At w (some ⟨g, 0, none⟩) (bv l)) (hc : l.length ≤ c) (hl : l.length ≤ 1000) :
    Calls Tryd.prog 86 #[.slice (some ⟨g, 0, none⟩) l.length c, .int .u8 0] w (fun e w' => e = .returned (.slice (some ⟨g, 0, none⟩) (blen l l.length) c) ∧ w = w') := by
  go_enter Tryd.func86, Tryd.ntmps86
  go_wp2
  go_loopg [0] l.length (fun kk s wr => ∃ j : Nat, s = .slice (some ⟨g, 0, none⟩) j c ∧ Hid (j ≤ kk ∧ j ≤ l.length ∧ blen l j = blen l l.length) ∧ w = wr)
  case atStart => exact ⟨l.length, rfl, ⟨Nat.le_refl _, Nat.le_refl _, rfl⟩, rfl⟩
  case round =>
    obtain ⟨j, rfl, hj, rfl⟩ := hrel
    cases j with
    | zero =>
      have e : blen l l.length = 0 := hj.out.2.2.symm
      go_wp2
      go_ret
      exact ⟨by rw [e]; rfl, rfl⟩
    | succ j =>
      have hlt : j < l.length := by have := hj.out; omega
      have hjc : j ≤ c := by omega
      obtain ⟨x, hx⟩ : ∃ x, l[j] = x := ⟨_, rfl⟩
      obtain ⟨ad, e, hcell⟩ := hA j (.int .u8 (x.toNat : Int)) (by simp [bv, List.getElem?_eq_getElem hlt, hx])
      injection e with e
      subst e
      rw [add0] at hcell
      have hj1 : j ≤ 1000 := by omega
      by_cases hx0 : x = 0
      · have e0 : ((x.toNat : Int) == 0) = true := by simp [hx0]
        have hb : blen l (j + 1) = blen l j := by rw [blen, if_pos (by rw [List.getElem?_eq_getElem hlt, hx, hx0])]
        have HB := Lib.hid (hb.symm.trans hj.out.2.2)
        clear hb hx hx0
        go_wp2_with fail
        go_roundg (gk - 1)
        case measure => have := hj.out; omega
        case rel => exact ⟨j, rfl, ⟨(by have := hj.out; omega), (by omega), HB.out⟩, rfl⟩
      · have e0 : ((x.toNat : Int) == 0) = false := by
          have : x.toNat ≠ 0 := fun e => hx0 (UInt8.toNat_inj.1 e)
          simp [this]
        have hb : blen l (j + 1) = j + 1 := by rw [blen, if_neg (by rw [List.getElem?_eq_getElem hlt, hx]; simp [hx0])]
        have HB := Lib.hid (hb.symm.trans hj.out.2.2)
        clear hb hx hx0
        go_wp2_with fail
        go_ret
        exact ⟨by rw [← HB.out]; rfl, rfl⟩
theorem trimRight_any (g c : Nat) (l : List UInt8) (w : World) (hA : At w (some ⟨g, 0, none⟩) (bv l)) (hc : l.length ≤ c) (hl : l.length = 96) :
    Calls Tryd.prog 68 #[.slice (some ⟨g, 0, none⟩) 96 c, .string ⟨#[0]⟩] w (fun e w' => e = .returned (.slice (some ⟨g, 0, none⟩) (blen l l.length) c) ∧ w = w') := by
  have HT := trim_any g c l w hA hc (by omega)
  rw [hl] at HT ⊢
  have HT' := Lib.hid HT
  clear HT hl
  go_enter Tryd.func68, Tryd.ntmps68
  go_wp2_with fail
  refine HT'.out.mono ?_
  rintro e w' ⟨rfl, rfl⟩
  go_wp2_with fail
  go_ret
  exact ⟨rfl, rfl⟩
/-- the bare bytes lie in a new block -/
theorem bare_any (l : List UInt8) (hl : l.length = 96) (w : World) :
    Calls Tryd.prog 40 #[.agg (bodyV l)] w (fun e w' => ∃ g, e = .returned (.slice (some ⟨g, 0, none⟩) (bareB l).length 96) ∧ At w' (some ⟨g, 0, none⟩) (bv (bareB l)) ∧ Below w.heap.size w w') := by
  go_enter Tryd.func40, Tryd.ntmps40
  have hA : At (w.alloc (.cells (bodyV l) 25)) (some ⟨w.heap.size, 0, none⟩) (bv l) := fun j u hj => ⟨_, rfl, by rw [add0]; simpa [bodyV] using hj⟩
  have HA := Lib.hid hA
  have HB : Hid (Below w.heap.size w (w.alloc (.cells (bodyV l) 25))) := (Below.refl _ _).alloc (Nat.le_refl _) _
  go_wp2_with fail
  refine (trimRight_any w.heap.size 96 l _ HA.out (by omega) hl).mono ?_
  rintro e w' ⟨rfl, rfl⟩
  go_wp2_with fail
  go_ret
  have hle := blen_le l l.length
  have e : (bareB l).length = blen l l.length := by unfold bareB; rw [List.length_take]; omega
  refine ⟨w.heap.size, by rw [e, hl]; rfl, fun j u hj => HA.out j u ?_, HB.out⟩
  simp only [bareB, bv, List.getElem?_map, List.getElem?_take] at hj ⊢
  split at hj
  · exact hj
  · cases hj
end Go.Proofs.YtemmdlanidepbaaDoor
