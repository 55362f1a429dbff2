/- What was written is read as it was: messages. Plain Lean. -/
import Derived.Test.YtemmdlanidepbaaDoorParse
namespace Go.Proofs.YtemmdlanidepbaaDoor
open Go.RowKit
set_option linter.unusedSimpArgs false

theorem setF_body {m0 m : Msg} {f : Int} (h : f ≠ 7) : (setF m0 m f).body = m0.body := by
  unfold setF
  repeat' split
  all_goals first | rfl | (exfalso; omega)
theorem rdFields_put {m : Msg} (hm : m.Ok) (hb : Bounds m) (l : List UInt8) : ∀ (L : List Int) (m0 : Msg) (pos : Nat) (r : List UInt8), m0.body = List.replicate 96 0 → (∀ f ∈ L, f = 1 ∨ f = 2 ∨ f = 3 ∨ f = 4 ∨ f = 5 ∨ f = 6 ∨ f = 7) → 7 ∉ L.dropLast →
    l.drop pos = (L.map (fieldB m)).flatten ++ r → pos ≤ l.length → rdFields L m0 l pos = some (L.foldl (fun a f => setF a m f) m0, pos + ((L.map (fieldB m)).flatten).length) := by
  intro L
  induction L with
  | nil => intro m0 pos r _ _ _ _ _; simp [rdFields]
  | cons f L ih =>
    intro m0 pos r h0 hf h7 hl hp
    rw [List.map_cons, List.flatten_cons, List.append_assoc] at hl
    have h1 := rdField_put hm hb h0 (hf f (by simp)) hl hp
    simp only [rdFields, h1, List.foldl_cons, List.map_cons, List.flatten_cons, List.length_append]
    have hlen := congrArg List.length hl
    rw [List.length_drop, List.length_append] at hlen
    cases L with
    | nil => simp [rdFields]
    | cons f2 L =>
      have hne : f ≠ 7 := fun e => h7 (by rw [e]; simp)
      rw [ih (setF m0 m f) (pos + (fieldB m f).length) r (by rw [setF_body hne]; exact h0) (fun x hx => hf x (List.mem_cons_of_mem _ hx)) (fun hx => h7 (by rw [List.dropLast_cons_cons]; exact List.mem_cons_of_mem _ hx)) (by rw [← List.drop_drop, hl, List.drop_left]) (by omega)]
      simp only [Nat.add_assoc]
theorem fieldsOf_last (k : Int) : 7 ∉ (fieldsOf k).dropLast := by
  by_cases h : 1 ≤ k ∧ k ≤ 13
  · rcases kind_cases h with rfl | rfl | rfl | rfl | rfl | rfl | rfl | rfl | rfl | rfl | rfl | rfl | rfl
    all_goals decide
  · rw [fieldsOf_out h]; simp
/-- what a message that may be has not, is nought -/
structure Noughts (m : Msg) : Prop where
  op : (2 : Int) ∉ fieldsOf m.kind → m.op = 0
  mode : (3 : Int) ∉ fieldsOf m.kind → m.mode = 0
  dest : (4 : Int) ∉ fieldsOf m.kind → m.dest = 0
  psn : (5 : Int) ∉ fieldsOf m.kind → m.psn = 0
  dirty : (6 : Int) ∉ fieldsOf m.kind → m.dirty = false
  body : (7 : Int) ∉ fieldsOf m.kind → m.body = List.replicate 96 0
theorem noughts_of {m : Msg} (h : mayM m = true) : Noughts m := by
  have hb := bounds_of h
  unfold mayM at h
  simp only [Bool.and_eq_true, Bool.not_eq_true'] at h
  obtain ⟨⟨⟨h1, h2⟩, h3⟩, h4⟩ := h
  simp only [may2, Bool.or_eq_false_iff, decide_eq_false_iff_not, Bool.and_eq_false_iff] at h2
  simp only [may3, Bool.or_eq_false_iff, decide_eq_false_iff_not, Bool.and_eq_false_iff] at h3
  have k : ∀ f : Int, f ∉ fieldsOf m.kind → hasB m.kind f = false := fun f hf => by simp [hasB, hf]
  refine ⟨fun hf => ?_, fun hf => ?_, fun hf => ?_, fun hf => ?_, fun hf => ?_, fun hf => ?_⟩
  · rw [k 2 hf] at h2
    have := h2.1.1.1.1
    have := hb.op
    simp at *
    omega
  · rw [k 3 hf] at h2
    have := h2.2
    simpa using this
  · rw [k 4 hf] at h3
    have := h3.1.1.1.1
    simpa using this
  · rw [k 5 hf] at h4
    simpa [may4] using h4
  · rw [k 6 hf] at h3
    have := h3.1.2
    simpa using this
  · rw [k 7 hf] at h3
    have := h3.2
    simpa [bodyZ] using this
theorem fold_all {m : Msg} (hn : Noughts m) (hk : 1 ≤ m.kind ∧ m.kind ≤ 13) : (fieldsOf m.kind).foldl (fun a f => setF a m f) (bareM m.kind) = m := by
  obtain ⟨n2, n3, n4, n5, n6, n7⟩ := hn
  obtain ⟨k, page, op, mode, dest, psn, dirty, body⟩ := m
  simp only at n2 n3 n4 n5 n6 n7 hk ⊢
  rcases kind_cases hk with rfl | rfl | rfl | rfl | rfl | rfl | rfl | rfl | rfl | rfl | rfl | rfl | rfl
  all_goals
    simp [fieldsOf] at n2 n3 n4 n5 n6 n7
    simp [fieldsOf, bareM, setF, *]
/-- what was written is read as it was -/
theorem parse_put {m : Msg} (hm : m.Ok) (h : mayM m = true) (r : List UInt8) : parse (putB m ++ r) = some (m, (putB m).length) := by
  have hb := bounds_of h
  have hn := noughts_of h
  have hk := rdNum_enc (z := m.kind) (by have := hb.kind; omega) (by have := hb.kind; omega) (l := putB m ++ r) (r := ((fieldsOf m.kind).map (fieldB m)).flatten ++ r) (pos := 0) (by unfold putB; simp)
  unfold parse
  rw [hk]
  simp only [Nat.zero_add]
  rw [rdFields_put hm hb (putB m ++ r) (fieldsOf m.kind) (bareM m.kind) (enc m.kind.toNat).length r rfl (fun f hf => fields_range hf) (fieldsOf_last _) (by unfold putB; rw [List.append_assoc, List.drop_left]) (by unfold putB; simp)]
  rw [fold_all hn hb.kind]
  unfold putB
  rw [List.length_append]
end Go.Proofs.YtemmdlanidepbaaDoor
