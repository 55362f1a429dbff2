/- What is read is a message. Plain Lean. -/
import Derived.Test.YtemmdlanidepbaaDoorParse2
namespace Go.Proofs.YtemmdlanidepbaaDoor
open Go.RowKit
set_option linter.unusedSimpArgs false

theorem rdNum_range {l : List UInt8} {pos : Nat} {z : Int} {p : Nat} (h : rdNum l pos = some (z, p)) : 0 ≤ z ∧ z ≤ 4611686018427387904 := by
  unfold rdNum at h
  split at h
  · cases h
  · split at h
    · injection h with h
      injection h with h _
      subst h
      exact ⟨by omega, by omega⟩
    · cases h
theorem rdBody_len {l : List UInt8} {pos : Nat} {b : List UInt8} {p : Nat} (h : rdBody l pos = some (b, p)) : b.length ≤ 96 := by
  unfold rdBody at h
  split at h
  · cases h
  · split at h
    · injection h with h
      injection h with h _
      subst h
      simp only [List.length_take]
      omega
    · cases h
theorem i64_of {z : Int} (h : 0 ≤ z ∧ z ≤ 4611686018427387904) : I64 z := by unfold I64; omega
theorem rdField_ok {m m1 : Msg} {f : Int} {l : List UInt8} {pos p1 : Nat} (hm : m.Ok) (h : rdField m f l pos = some (m1, p1)) : m1.Ok := by
  unfold rdField at h
  repeat' split at h
  all_goals try (
    cases hr : rdNum l pos with
    | none => rw [hr] at h; cases h
    | some r =>
      have hz := i64_of (rdNum_range (z := r.1) (p := r.2) hr)
      rw [hr] at h
      injection h with h
      injection h with h _
      subst h
      constructor <;> first | exact hz | exact hm.kind | exact hm.page | exact hm.op | exact hm.mode | exact hm.dest | exact hm.psn | exact hm.body)
  · cases hr : rdFlg l pos with
    | none => rw [hr] at h; cases h
    | some r =>
      rw [hr] at h
      injection h with h
      injection h with h _
      subst h
      exact ⟨hm.kind, hm.page, hm.op, hm.mode, hm.dest, hm.psn, hm.body⟩
  · cases hr : rdBody l pos with
    | none => rw [hr] at h; cases h
    | some r =>
      have hl := rdBody_len (b := r.1) (p := r.2) hr
      rw [hr] at h
      injection h with h
      injection h with h _
      subst h
      refine ⟨hm.kind, hm.page, hm.op, hm.mode, hm.dest, hm.psn, ?_⟩
      have := hm.body
      simp only [List.length_append, List.length_drop]
      omega
  · injection h with h
    injection h with h _
    subst h
    exact hm
theorem rdFields_ok {l : List UInt8} {m1 : Msg} {p1 : Nat} : ∀ (L : List Int) (m : Msg) (pos : Nat), m.Ok → rdFields L m l pos = some (m1, p1) → m1.Ok := by
  intro L
  induction L with
  | nil =>
    intro m pos hm h
    simp only [rdFields] at h
    injection h with h
    injection h with h _
    subst h
    exact hm
  | cons f L ih =>
    intro m pos hm h
    simp only [rdFields] at h
    split at h
    · cases h
    · rename_i m2 p2 hf
      exact ih m2 p2 (rdField_ok hm hf) h
theorem parse_ok {l : List UInt8} {m : Msg} {p : Nat} (h : parse l = some (m, p)) : m.Ok := by
  unfold parse at h
  split at h
  · cases h
  · rename_i k p0 hr
    have hz := i64_of (rdNum_range hr)
    refine rdFields_ok _ _ _ ?_ h
    have h0 : I64 0 := by unfold I64; omega
    exact ⟨hz, h0, h0, h0, h0, h0, List.length_replicate⟩
end Go.Proofs.YtemmdlanidepbaaDoor
