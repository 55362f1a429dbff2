/- Reading a number, in plain Lean. -/
import Derived.Test.YtemmdlanidepbaaDoorEnc
namespace Go.Proofs.YtemmdlanidepbaaDoor
open Go.RowKit

/-- a number's digits, from digit i on: the number, and how many digits there are in all; none: they are none -/
def dec (i acc : Nat) : List UInt8 → Option (Nat × Nat)
  | [] => none
  | c :: r => if i = 9 ∧ 1 < c.toNat ∨ 0 < i ∧ c.toNat = 0 then none
    else if c.toNat < 128 then some (acc + c.toNat % 128 * 2 ^ (7 * i), i + 1) else dec (i + 1) (acc + c.toNat % 128 * 2 ^ (7 * i)) r

/-- a digit, behind those that were read -/
theorem digit (acc i q : Nat) (hi : i ≤ 9) (hq : q < 256) (h9 : i = 9 → q ≤ 1) (ha : acc < 2 ^ (7 * i)) :
    acc + q % 128 * 2 ^ (7 * i) < 18446744073709551616 ∧ (q < 128 ∨ acc + q % 128 * 2 ^ (7 * i) < 2 ^ (7 * (i + 1))) ∧
    bits .or .u64 (acc : Int) (IntKind.u64.wrap (IntKind.u64.wrap (bits .and .u8 (q : Int) 127) * 2 ^ (7 * i))) = ((acc + q % 128 * 2 ^ (7 * i) : Nat) : Int) := by
  have e1 : bits .and .u8 (q : Int) 127 = ((q % 128 : Nat) : Int) := by
    have := u8_and_nat q 127 hq (by omega)
    rw [show ((127 : Nat) : Int) = 127 from rfl] at this
    rw [this, Nat.and_two_pow_sub_one_eq_mod q 7]
  have hp : 2 ^ (7 * i) ≤ 2 ^ 63 := Nat.pow_le_pow_right (by omega) (by omega)
  have hm : q % 128 * 2 ^ (7 * i) + 2 ^ (7 * i) ≤ 18446744073709551616 := by
    by_cases h : i = 9
    · have := h9 h
      subst h
      have : q % 128 ≤ 1 := by omega
      have h2 : q % 128 * 2 ^ (7 * 9) ≤ 1 * 2 ^ (7 * 9) := Nat.mul_le_mul_right _ this
      simp at h2 ⊢
      omega
    · have h8 : 2 ^ (7 * i) ≤ 2 ^ 56 := Nat.pow_le_pow_right (by omega) (by omega)
      have h2 : q % 128 * 2 ^ (7 * i) ≤ 127 * 2 ^ 56 := Nat.mul_le_mul (by omega) h8
      omega
  have hlt : acc + q % 128 * 2 ^ (7 * i) < 18446744073709551616 := by omega
  refine ⟨hlt, ?_, ?_⟩
  · right
    rw [show 7 * (i + 1) = 7 * i + 7 by omega, Nat.pow_add]
    have : q % 128 * 2 ^ (7 * i) ≤ 127 * 2 ^ (7 * i) := Nat.mul_le_mul_right _ (by omega)
    omega
  · rw [e1]
    have e2 : IntKind.u64.wrap ((q % 128 : Nat) : Int) = ((q % 128 : Nat) : Int) := by rw [IntKind.wrap_u64]; omega
    have e3 : ((q % 128 : Nat) : Int) * 2 ^ (7 * i) = ((q % 128 * 2 ^ (7 * i) : Nat) : Int) := by rw [Int.natCast_mul, Int.natCast_pow]; rfl
    have e4 : IntKind.u64.wrap ((q % 128 * 2 ^ (7 * i) : Nat) : Int) = ((q % 128 * 2 ^ (7 * i) : Nat) : Int) := by rw [IntKind.wrap_u64]; omega
    rw [e2, e3, e4, u64_or_nat _ _ (by omega) (by omega)]
    congr 1
    have := Nat.shiftLeft_add_eq_or_of_lt ha (q % 128)
    rw [Nat.shiftLeft_eq] at this
    rw [Nat.or_comm, ← this]
    omega

theorem dec_stop {i acc : Nat} {c : UInt8} {r : List UInt8} (h : i = 9 ∧ 1 < c.toNat ∨ 0 < i ∧ c.toNat = 0) : dec i acc (c :: r) = none := by
  rw [dec, if_pos h]
theorem dec_last {i acc : Nat} {c : UInt8} {r : List UInt8} (h : ¬ (i = 9 ∧ 1 < c.toNat ∨ 0 < i ∧ c.toNat = 0)) (hc : c.toNat < 128) : dec i acc (c :: r) = some (acc + c.toNat % 128 * 2 ^ (7 * i), i + 1) := by
  rw [dec, if_neg h, if_pos hc]
theorem dec_next {i acc : Nat} {c : UInt8} {r : List UInt8} (h : ¬ (i = 9 ∧ 1 < c.toNat ∨ 0 < i ∧ c.toNat = 0)) (hc : ¬ c.toNat < 128) : dec i acc (c :: r) = dec (i + 1) (acc + c.toNat % 128 * 2 ^ (7 * i)) r := by
  rw [dec, if_neg h, if_neg hc]

/-- what was read lies in the bytes, and fits -/
theorem dec_fits : ∀ (r : List UInt8) (i acc : Nat), i ≤ 9 → acc < 2 ^ (7 * i) → ∀ x k, dec i acc r = some (x, k) → i < k ∧ k ≤ i + r.length ∧ U64 x := by
  intro r
  induction r with
  | nil => intro i acc _ _ x k h; simp [dec] at h
  | cons c r ih =>
    intro i acc hi ha x k h
    by_cases hs : i = 9 ∧ 1 < c.toNat ∨ 0 < i ∧ c.toNat = 0
    · rw [dec_stop hs] at h; cases h
    · have hc := c.toNat_lt
      have hd := digit acc i c.toNat hi hc (by omega) ha
      by_cases hl : c.toNat < 128
      · rw [dec_last hs hl] at h
        injection h with h
        injection h with h1 h2
        subst h1
        subst h2
        exact ⟨by omega, by simp, hd.1⟩
      · rw [dec_next hs hl] at h
        obtain ⟨a1, a2, a3⟩ := ih (i + 1) _ (by omega) (hd.2.1.resolve_left hl) x k h
        clear hd
        exact ⟨by omega, by simp only [List.length_cons]; omega, a3⟩

/-- back: a number without a sign as a signed one -/
def unf (x : Nat) : Int := if x % 2 = 1 then -((x / 2 : Nat) : Int) - 1 else ((x / 2 : Nat) : Int)
theorem unf_fold (n : Int) : unf (fold n) = n := by
  unfold unf fold
  split <;> split <;> omega
theorem unf_i64 {x : Nat} (h : U64 x) : I64 (unf x) := by
  unfold unf I64
  unfold U64 at h
  split <;> omega
theorem i64_ones (a : Nat) (ha : a < 9223372036854775808) : bits .xor .i64 (a : Int) (-1) = -1 - (a : Int) := by
  show IntKind.i64.wrap ((BitVec.ofInt 64 (a : Int) ^^^ BitVec.ofInt 64 (-1)).toNat : Int) = _
  have h1 : BitVec.ofInt 64 (-1) = BitVec.allOnes 64 := by decide
  rw [h1, BitVec.xor_allOnes, BitVec.toNat_not, ofInt_u64 a (by omega)]
  simp [IntKind.wrap, IntKind.bits, IntKind.signed]
  omega
theorem i64_zero (a : Nat) (ha : a < 9223372036854775808) : bits .xor .i64 (a : Int) 0 = (a : Int) := by
  show IntKind.i64.wrap ((BitVec.ofInt 64 (a : Int) ^^^ BitVec.ofInt 64 0).toNat : Int) = _
  have h1 : BitVec.ofInt 64 0 = 0#64 := by decide
  rw [h1, BitVec.xor_zero, ofInt_u64 a (by omega)]
  simp [IntKind.wrap, IntKind.bits, IntKind.signed]
  omega
theorem unzigzag {x : Nat} (h : U64 x) : bits .xor .i64 (wrap64 ((x : Int) / 2)) (wrap64 (-wrap64 (bits .and .u64 (x : Int) 1))) = unf x := by
  unfold U64 at h
  have e0 := u64_and_nat x 1 h (by omega)
  rw [show ((1 : Nat) : Int) = 1 from rfl, Nat.and_one_is_mod] at e0
  have e1 : wrap64 ((x : Int) / 2) = ((x / 2 : Nat) : Int) := by unfold wrap64; omega
  rw [e0, e1]
  unfold unf
  by_cases hx : x % 2 = 1
  · rw [if_pos hx, hx]
    rw [show wrap64 (-wrap64 ((1 : Nat) : Int)) = -1 by unfold wrap64; decide, i64_ones _ (by omega)]
    omega
  · rw [if_neg hx, show x % 2 = 0 by omega]
    rw [show wrap64 (-wrap64 ((0 : Nat) : Int)) = 0 by unfold wrap64; decide, i64_zero _ (by omega)]
end Go.Proofs.YtemmdlanidepbaaDoor
