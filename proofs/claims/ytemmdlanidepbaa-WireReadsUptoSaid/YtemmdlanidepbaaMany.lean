/- Lists of things that are read one by one: plain Lean. -/
import Derived.Test.YtemmdlanidepbaaDec2
namespace Go.Proofs.Ytemmdlanidepbaa
open Go.RowKit

section
variable {α : Type}
/-- n things, one behind the other: they, and how many bytes they take -/
def many (d : List UInt8 → Option (α × Nat)) : Nat → List UInt8 → Option (List α × Nat)
  | 0, _ => some ([], 0)
  | n + 1, l => match d l with
    | none => none
    | some (x, k) => match many d n (l.drop k) with
      | none => none
      | some (xs, m) => some (x :: xs, k + m)

variable {d : List UInt8 → Option (α × Nat)}
/-- behind i of them -/
structure Mid (d : List UInt8 → Option (α × Nat)) (l : List UInt8) (n p0 i : Nat) (acc : List α) (pos : Nat) : Prop where
  le : i ≤ n
  len : acc.length = i
  room : p0 + i ≤ pos
  fits : pos ≤ l.length
  law : many d n (l.drop p0) = (many d (n - i) (l.drop pos)).map (fun r => (acc ++ r.1, pos - p0 + r.2))
theorem Mid.start (l : List UInt8) (n p0 : Nat) (h : p0 ≤ l.length) : Mid d l n p0 0 [] p0 := ⟨Nat.zero_le _, rfl, Nat.le_refl _, h, by
  rw [Nat.sub_zero, Nat.sub_self]
  cases many d n (l.drop p0) with
  | none => rfl
  | some r => simp⟩
variable {l : List UInt8} {n p0 i : Nat} {acc : List α} {pos : Nat}
theorem Mid.next (h : Mid d l n p0 i acc pos) (hi : i < n) {x : α} {k : Nat} (hd : d (l.drop pos) = some (x, k)) (hk : pos + k ≤ l.length) (h0 : 0 < k) : Mid d l n p0 (i + 1) (acc ++ [x]) (pos + k) := by
  refine ⟨hi, by simp [h.len], by have := h.room; omega, hk, ?_⟩
  rw [h.law, show n - i = (n - (i + 1)) + 1 by omega, many, hd]
  simp only [List.drop_drop]
  cases many d (n - (i + 1)) (l.drop (pos + k)) with
  | none => rfl
  | some r =>
    have := h.room
    simp
    omega
theorem Mid.stop (h : Mid d l n p0 i acc pos) (hi : i < n) (hd : d (l.drop pos) = none) : many d n (l.drop p0) = none := by
  rw [h.law, show n - i = (n - (i + 1)) + 1 by omega, many, hd]
  rfl
theorem Mid.all (h : Mid d l n p0 i acc pos) (hi : ¬ i < n) : many d n (l.drop p0) = some (acc, pos - p0) := by
  rw [h.law, show n - i = 0 by have := h.le; omega, many]
  simp
end

/-- a number -/
def dec1 (l : List UInt8) : Option (Nat × Nat) := dec 0 0 l
/-- two numbers -/
def dec2 (l : List UInt8) : Option ((Nat × Nat) × Nat) := match dec 0 0 l with
  | none => none
  | some (a, k) => match dec 0 0 (l.drop k) with
    | none => none
    | some (b, m) => some ((a, b), k + m)

theorem dec_cut {n k : Nat} (h : U64 n) (hk : k < (enc n).length) : dec 0 0 ((enc n).take k) = none := by
  cases hd : dec 0 0 ((enc n).take k) with
  | none => rfl
  | some r =>
    obtain ⟨x, m⟩ := r
    obtain ⟨h1, h2⟩ := dec_take hd
    have hf := dec_fits _ _ _ (by omega) (by simp) _ _ hd
    rw [List.length_take] at hf
    have e : enc n = enc x ++ (enc n).drop m := by
      conv => lhs; rw [← List.take_append_drop m (enc n)]
      rw [← h1, List.take_take, Nat.min_eq_left (by omega)]
    have d1 := dec_enc h []
    rw [List.append_nil, e, dec_enc hf.2.2] at d1
    injection d1 with d1
    injection d1 with _ d2
    rw [← e] at d2
    omega
/-- bytes that are cut behind a number, or in it -/
theorem dec_take_enc {n : Nat} (h : U64 n) (r : List UInt8) (k : Nat) : dec 0 0 ((enc n ++ r).take k) = if k < (enc n).length then none else some (n, (enc n).length) := by
  rw [List.take_append]
  by_cases hk : k < (enc n).length
  · rw [if_pos hk, show k - (enc n).length = 0 by omega, List.take_zero, List.append_nil]
    exact dec_cut h hk
  · rw [if_neg hk, List.take_of_length_le (by omega)]
    exact dec_enc h _
theorem drop_take_enc (a r : List UInt8) (k : Nat) (hk : a.length ≤ k) : ((a ++ r).take k).drop a.length = r.take (k - a.length) := by
  rw [List.take_append, List.take_of_length_le hk, List.drop_left]

/-- the form of a pair -/
def encP (p : Nat × Nat) : List UInt8 := enc p.1 ++ enc p.2
def U64P (p : Nat × Nat) : Prop := U64 p.1 ∧ U64 p.2
theorem dec2_take {p : Nat × Nat} (h : U64P p) (r : List UInt8) (k : Nat) : dec2 ((encP p ++ r).take k) = if k < (encP p).length then none else some (p, (encP p).length) := by
  obtain ⟨a, b⟩ := p
  unfold dec2 encP
  have ha : U64 a := h.1
  have hb : U64 b := h.2
  show _ = if k < (enc a ++ enc b).length then none else some ((a, b), (enc a ++ enc b).length)
  simp only [List.length_append, List.append_assoc]
  rw [dec_take_enc ha]
  by_cases h1 : k < (enc a).length
  · rw [if_pos h1, if_pos (by omega)]
  · rw [if_neg h1]
    simp only
    rw [drop_take_enc _ _ _ (by omega), dec_take_enc hb]
    by_cases h2 : k < (enc a).length + (enc b).length
    · rw [if_pos (by omega), if_pos h2]
    · rw [if_neg (by omega), if_neg h2]

/-- all pairs, one behind the other -/
def encs (P : List (Nat × Nat)) : List UInt8 := (P.map encP).flatten
theorem encs_cons (p : Nat × Nat) (P : List (Nat × Nat)) : encs (p :: P) = encP p ++ encs P := rfl
theorem encs_app (P Q : List (Nat × Nat)) : encs (P ++ Q) = encs P ++ encs Q := by simp [encs]
theorem many_encs : ∀ (P : List (Nat × Nat)), (∀ p ∈ P, U64P p) → ∀ k, many dec2 P.length ((encs P).take k) = if k < (encs P).length then none else some (P, (encs P).length) := by
  intro P
  induction P with
  | nil => intro _ k; simp [many, encs]
  | cons p P ih =>
    intro h k
    rw [List.length_cons, many, encs_cons, dec2_take (h p (by simp)), List.length_append]
    by_cases h1 : k < (encP p).length
    · rw [if_pos h1, if_pos (by omega)]
    · rw [if_neg h1]
      simp only
      rw [drop_take_enc _ _ _ (by omega), ih (fun q hq => h q (List.mem_cons_of_mem _ hq))]
      by_cases h2 : k < (encP p).length + (encs P).length
      · rw [if_pos (by omega), if_pos h2]
      · rw [if_neg (by omega), if_neg h2]
/-- a list's form -/
def encL (P : List (Nat × Nat)) : List UInt8 := enc P.length ++ encs P
theorem encP_len {p : Nat × Nat} (h : U64P p) : (encP p).length ≤ 20 := by
  unfold encP
  rw [List.length_append]
  have := enc_len h.1
  have := enc_len h.2
  omega
theorem encs_len : ∀ (P : List (Nat × Nat)), (∀ p ∈ P, U64P p) → (encs P).length ≤ 20 * P.length := by
  intro P
  induction P with
  | nil => intro _; simp [encs]
  | cons p P ih =>
    intro h
    rw [encs_cons, List.length_append, List.length_cons]
    have := ih (fun q hq => h q (List.mem_cons_of_mem _ hq))
    have := encP_len (h p (by simp))
    omega
/-- the whole list is read as it was -/
theorem many_encL (P : List (Nat × Nat)) (h : ∀ p ∈ P, U64P p) : many dec2 P.length ((encL P).drop (enc P.length).length) = some (P, (encs P).length) := by
  unfold encL
  rw [List.drop_left]
  have := many_encs P h (encs P).length
  rwa [if_neg (by omega), List.take_length] at this
/-- what a cut list's bytes say -/
theorem cut_encL (P : List (Nat × Nat)) (hl : U64 P.length) (h : ∀ p ∈ P, U64P p) (k : Nat) (hk : k < (encL P).length) :
    dec 0 0 ((encL P).take k) = none ∨ dec 0 0 ((encL P).take k) = some (P.length, (enc P.length).length) ∧ many dec2 P.length (((encL P).take k).drop (enc P.length).length) = none := by
  unfold encL at hk ⊢
  rw [List.length_append] at hk
  rw [dec_take_enc hl]
  by_cases h1 : k < (enc P.length).length
  · rw [if_pos h1]
    exact .inl rfl
  · rw [if_neg h1]
    refine .inr ⟨rfl, ?_⟩
    rw [drop_take_enc _ _ _ (by omega), many_encs P h, if_pos (by omega)]
end Go.Proofs.Ytemmdlanidepbaa
