/- What was written is read as it was; what is read has just the form that was read. Plain Lean. -/
import Derived.Test.YtemmdlanidepbaaDoorDec
namespace Go.Proofs.YtemmdlanidepbaaDoor
open Go.RowKit

theorem toNat_small {n : Nat} (h : n < 256) : (UInt8.ofNat n).toNat = n := UInt8.toNat_ofNat_of_lt' (by simp [UInt8.size]; omega)

theorem dec_enc_from (r : List UInt8) : ∀ (m i acc : Nat), i ≤ 9 → acc < 2 ^ (7 * i) → acc + m * 2 ^ (7 * i) < 18446744073709551616 → (i = 0 ∨ 0 < m) → dec i acc (enc m ++ r) = some (acc + m * 2 ^ (7 * i), i + (enc m).length) := by
  intro m
  induction m using Nat.strongRecOn with
  | _ m ih =>
    intro i acc hi ha hm h0
    have h9 : i = 9 → m ≤ 1 := by
      intro h
      subst h
      have h2 : m * 2 ^ 63 < 18446744073709551616 := by simp at hm ⊢; omega
      omega
    by_cases hs : m < 128
    · rw [enc_small hs]
      have e : (UInt8.ofNat m).toNat = m := toNat_small (by omega)
      rw [List.singleton_append, dec_last (by rw [e]; omega) (by rw [e]; exact hs), e, Nat.mod_eq_of_lt hs]
      rfl
    · rw [enc_big hs, List.cons_append]
      have e : (UInt8.ofNat (m % 128 + 128)).toNat = m % 128 + 128 := toNat_small (by omega)
      rw [dec_next (by rw [e]; omega) (by rw [e]; omega), e]
      have e2 : (m % 128 + 128) % 128 = m % 128 := by omega
      rw [e2]
      have hsum : acc + m % 128 * 2 ^ (7 * i) + m / 128 * 2 ^ (7 * (i + 1)) = acc + m * 2 ^ (7 * i) := by
        rw [show 7 * (i + 1) = 7 * i + 7 by omega, Nat.pow_add, Nat.mul_comm (2 ^ (7 * i)), ← Nat.mul_assoc, Nat.add_assoc, ← Nat.add_mul]
        congr 2
        omega
      have hd := digit acc i (m % 128 + 128) hi (by omega) (by omega) ha
      rw [e2] at hd
      rw [ih (m / 128) (by omega) (i + 1) _ (by omega) (hd.2.1.resolve_left (by omega)) (by rw [hsum]; exact hm) (by omega), hsum]
      simp only [List.length_cons]
      congr 2
      omega
/-- what was written is read as it was -/
theorem dec_enc {n : Nat} (h : U64 n) (r : List UInt8) : dec 0 0 (enc n ++ r) = some (n, (enc n).length) := by
  have := dec_enc_from r n 0 0 (by omega) (by simp) (by unfold U64 at h; omega) (.inl rfl)
  simpa using this

/-- what is read has just the form that was read -/
theorem dec_form : ∀ (r : List UInt8) (i acc x k : Nat), i ≤ 9 → acc < 2 ^ (7 * i) → dec i acc r = some (x, k) → ∃ m, x = acc + m * 2 ^ (7 * i) ∧ (i = 0 ∨ 0 < m) ∧ k = i + (enc m).length ∧ r.take (k - i) = enc m := by
  intro r
  induction r with
  | nil => intro i acc x k _ _ h; simp [dec] at h
  | cons c r ih =>
    intro i acc x k hi ha h
    by_cases hs : i = 9 ∧ 1 < c.toNat ∨ 0 < i ∧ c.toNat = 0
    · rw [dec_stop hs] at h
      cases h
    · have hc := c.toNat_lt
      have hd := digit acc i c.toNat hi hc (by omega) ha
      by_cases hl : c.toNat < 128
      · rw [dec_last hs hl] at h
        injection h with h
        injection h with h1 h2
        subst h1
        subst h2
        refine ⟨c.toNat, by rw [Nat.mod_eq_of_lt hl], by omega, by rw [enc_small hl]; rfl, ?_⟩
        rw [enc_small hl, Nat.add_sub_cancel_left]
        simp
      · rw [dec_next hs hl] at h
        obtain ⟨m, h1, h2, h3, h4⟩ := ih (i + 1) _ x k (by omega) (hd.2.1.resolve_left hl) h
        clear hd
        have hm : 0 < m := by omega
        have hpos := enc_pos m
        have hc8 : 128 ≤ c.toNat := by omega
        have e2 : enc (c.toNat % 128 + m * 128) = c :: enc m := by
          rw [enc_big (by omega)]
          congr 1
          · apply UInt8.toNat_inj.1
            clear h1
            rw [toNat_small (by omega)]
            omega
          · congr 1
            omega
        refine ⟨c.toNat % 128 + m * 128, ?_, by omega, ?_, ?_⟩
        · rw [h1, show 7 * (i + 1) = 7 * i + 7 by omega, Nat.pow_add, Nat.mul_comm (2 ^ (7 * i)), ← Nat.mul_assoc, Nat.add_assoc, ← Nat.add_mul]
        · rw [e2, h3]
          simp only [List.length_cons]
          omega
        · rw [e2, ← h4, show k - i = (k - (i + 1)) + 1 by omega, List.take_succ_cons]
theorem dec_take {r : List UInt8} {x k : Nat} (h : dec 0 0 r = some (x, k)) : r.take k = enc x ∧ k = (enc x).length := by
  obtain ⟨m, h1, _, h3, h4⟩ := dec_form r 0 0 x k (by omega) (by simp) h
  simp only [Nat.mul_zero, Nat.pow_zero, Nat.mul_one, Nat.zero_add] at h1 h3
  subst h1
  exact ⟨by simpa using h4, h3⟩
theorem dec_nil : dec 0 0 [] = none := rfl
end Go.Proofs.YtemmdlanidepbaaDoor
