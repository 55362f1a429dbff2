/- Contract of message.Put. -/
import Derived.Test.YtemmdlanidepbaaDoorForms
namespace Go.Proofs.YtemmdlanidepbaaDoor
open Go.RowKit
set_option linter.unusedSimpArgs false
set_option maxRecDepth 100000

/-- a message's bytes -/
def putB (m : Msg) : List UInt8 := enc m.kind.toNat ++ ((fieldsOf m.kind).map (fieldB m)).flatten
theorem fields_range {k f : Int} (h : f ∈ fieldsOf k) : f = 1 ∨ f = 2 ∨ f = 3 ∨ f = 4 ∨ f = 5 ∨ f = 6 ∨ f = 7 := by
  by_cases hk : 1 ≤ k ∧ k ≤ 13
  · rcases kind_cases hk with rfl | rfl | rfl | rfl | rfl | rfl | rfl | rfl | rfl | rfl | rfl | rfl | rfl
    all_goals (simp [fieldsOf] at h; omega)
  · rw [fieldsOf_out hk] at h; cases h
/-- what a message that may be is known of -/
structure Bounds (m : Msg) : Prop where
  kind : 1 ≤ m.kind ∧ m.kind ≤ 13
  page : 0 ≤ m.page ∧ m.page < 16
  op : 0 ≤ m.op ∧ m.op ≤ 4611686018427387904
  mode : 0 ≤ m.mode ∧ m.mode ≤ 2
  dest : 0 ≤ m.dest ∧ m.dest < 8
  psn : 0 ≤ m.psn ∧ m.psn ≤ 2147483647
theorem bounds_of {m : Msg} (h : mayM m = true) : Bounds m := by
  unfold mayM at h
  simp only [Bool.and_eq_true, Bool.not_eq_true'] at h
  obtain ⟨⟨⟨h1, h2⟩, h3⟩, h4⟩ := h
  simp only [may1, Bool.or_eq_false_iff, decide_eq_false_iff_not] at h1
  simp only [may2, Bool.or_eq_false_iff, decide_eq_false_iff_not, Bool.and_eq_false_iff] at h2
  simp only [may3, Bool.or_eq_false_iff, decide_eq_false_iff_not, Bool.and_eq_false_iff] at h3
  have hk : 1 ≤ m.kind ∧ m.kind ≤ 13 := by
    by_cases hk : 1 ≤ m.kind ∧ m.kind ≤ 13
    · exact hk
    · rw [fieldsOf_out hk] at h1; simp at h1
  refine ⟨hk, by omega, by omega, ?_, by omega, ?_⟩
  · have h5 := h2.1.2
    have h6 := h2.2
    cases hb : hasB m.kind 3 <;> rw [hb] at h5 h6 <;> simp at h5 h6 <;> omega
  · unfold may4 at h4
    cases hb : hasB m.kind 5 <;> rw [hb] at h4
    · simp at h4; omega
    · simp only [if_true, Bool.and_eq_true, decide_eq_true_eq] at h4
      split at h4 <;> omega
theorem form_len {m : Msg} (hm : m.Ok) (hb : Bounds m) (f : Int) : (fieldB m f).length ≤ 106 := by
  have l1 := enc_len (n := m.page.toNat) (by unfold U64; have := hb.page; omega)
  have l2 := enc_len (n := m.op.toNat) (by unfold U64; have := hb.op; omega)
  have l3 := enc_len (n := m.mode.toNat) (by unfold U64; have := hb.mode; omega)
  have l4 := enc_len (n := m.dest.toNat) (by unfold U64; have := hb.dest; omega)
  have l5 := enc_len (n := m.psn.toNat) (by unfold U64; have := hb.psn; omega)
  have l7 : (encB (bareB m.body)).length ≤ 106 := by
    have hl : (bareB m.body).length ≤ 96 := by unfold bareB; rw [List.length_take]; have := hm.body; omega
    have := enc_len (n := (bareB m.body).length) (by unfold U64; omega)
    unfold encB
    rw [List.length_append]
    omega
  unfold fieldB
  repeat' split
  all_goals first | omega | (simp [flg])
theorem map_take {m : Msg} (L : List Int) (j : Nat) (hj : j < L.length) : ((L.take (j + 1)).map (fieldB m)).flatten = ((L.take j).map (fieldB m)).flatten ++ fieldB m L[j] := by
  rw [List.take_succ_eq_append_getElem hj, List.map_append, List.flatten_append]
  simp
theorem put_room {m : Msg} (hm : m.Ok) (hb : Bounds m) (L : List Int) : ∀ j, j ≤ L.length → ((L.take j).map (fieldB m)).flatten.length ≤ 106 * j := by
  intro j
  induction j with
  | zero => intro _; simp
  | succ j ih =>
    intro hj
    rw [map_take L j (by omega), List.length_append]
    have := ih (by omega)
    have := form_len hm hb L[j]
    omega
end Go.Proofs.YtemmdlanidepbaaDoor
