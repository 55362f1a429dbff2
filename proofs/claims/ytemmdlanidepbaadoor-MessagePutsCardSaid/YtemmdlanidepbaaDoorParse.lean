/- What bytes say as a message: plain Lean. -/
import Derived.Test.YtemmdlanidepbaaDoorPut
import Derived.Test.YtemmdlanidepbaaDoorDec2
namespace Go.Proofs.YtemmdlanidepbaaDoor
open Go.RowKit
set_option linter.unusedSimpArgs false

/-- a number that is none too great: it, and the place behind it -/
def rdNum (l : List UInt8) (pos : Nat) : Option (Int × Nat) := match dec 0 0 (l.drop pos) with
  | none => none
  | some (x, k) => if x ≤ 4611686018427387904 then some ((x : Int), pos + k) else none
/-- a body: its bytes -/
def rdBody (l : List UInt8) (pos : Nat) : Option (List UInt8 × Nat) := match dec 0 0 (l.drop pos) with
  | none => none
  | some (x, k) => if x ≤ 96 ∧ pos + k + x ≤ l.length then some ((l.drop (pos + k)).take x, pos + k + x) else none
/-- a flag -/
def rdFlg (l : List UInt8) (pos : Nat) : Option (Bool × Nat) := match l.drop pos with
  | [] => none
  | b :: _ => if b.toNat ≤ 1 then some (b.toNat == 1, pos + 1) else none
/-- a field is read into a message -/
def rdField (m : Msg) (f : Int) (l : List UInt8) (pos : Nat) : Option (Msg × Nat) :=
  if f = 1 then (rdNum l pos).map fun r => ({ m with page := r.1 }, r.2)
  else if f = 2 then (rdNum l pos).map fun r => ({ m with op := r.1 }, r.2)
  else if f = 3 then (rdNum l pos).map fun r => ({ m with mode := r.1 }, r.2)
  else if f = 4 then (rdNum l pos).map fun r => ({ m with dest := r.1 }, r.2)
  else if f = 5 then (rdNum l pos).map fun r => ({ m with psn := r.1 }, r.2)
  else if f = 6 then (rdFlg l pos).map fun r => ({ m with dirty := r.1 }, r.2)
  else if f = 7 then (rdBody l pos).map fun r => ({ m with body := r.1 ++ m.body.drop r.1.length }, r.2)
  else some (m, pos)
def rdFields : List Int → Msg → List UInt8 → Nat → Option (Msg × Nat)
  | [], m, _, pos => some (m, pos)
  | f :: L, m, l, pos => match rdField m f l pos with
    | none => none
    | some (m1, p1) => rdFields L m1 l p1
/-- a message of a kind, and nothing else -/
def bareM (k : Int) : Msg := ⟨k, 0, 0, 0, 0, 0, false, List.replicate 96 0⟩
/-- what bytes say, and the place behind it -/
def parse (l : List UInt8) : Option (Msg × Nat) := match rdNum l 0 with
  | none => none
  | some (k, p) => rdFields (fieldsOf k) (bareM k) l p

def setF (m0 m : Msg) (f : Int) : Msg :=
  if f = 1 then { m0 with page := m.page } else if f = 2 then { m0 with op := m.op } else if f = 3 then { m0 with mode := m.mode } else if f = 4 then { m0 with dest := m.dest }
  else if f = 5 then { m0 with psn := m.psn } else if f = 6 then { m0 with dirty := m.dirty } else if f = 7 then { m0 with body := m.body } else m0

theorem rdNum_enc {z : Int} (h0 : 0 ≤ z) (h1 : z ≤ 4611686018427387904) {l r : List UInt8} {pos : Nat} (hl : l.drop pos = enc z.toNat ++ r) : rdNum l pos = some (z, pos + (enc z.toNat).length) := by
  unfold rdNum
  rw [hl, dec_enc (by unfold U64; omega)]
  simp only
  rw [if_pos (by omega), Int.toNat_of_nonneg h0]
theorem blen_rest (l : List UInt8) : ∀ n, n ≤ l.length → (l.take n).drop (blen l n) = List.replicate (n - blen l n) 0 := by
  intro n
  induction n with
  | zero => intro _; simp [blen]
  | succ n ih =>
    intro hn
    rw [blen]
    split
    · rename_i h0
      have hle := blen_le l n
      have e : l.take (n + 1) = l.take n ++ [0] := by
        rw [List.take_succ_eq_append_getElem (by omega)]
        rw [List.getElem?_eq_getElem (by omega)] at h0
        injection h0 with h0
        rw [h0]
      rw [e, List.drop_append_of_le_length (by rw [List.length_take]; omega), ih (by omega), show n + 1 - blen l n = (n - blen l n) + 1 by omega, List.replicate_succ']
    · rw [List.drop_eq_nil_of_le (by rw [List.length_take]; omega)]
      simp
theorem bare_back (l : List UInt8) : bareB l ++ List.replicate (l.length - (bareB l).length) 0 = l := by
  have h := blen_rest l l.length (Nat.le_refl _)
  have hle := blen_le l l.length
  have e : (bareB l).length = blen l l.length := by unfold bareB; rw [List.length_take]; omega
  rw [e]
  rw [List.take_length] at h
  rw [← h]
  unfold bareB
  rw [List.take_append_drop]
theorem rdField_put {m0 m : Msg} (hm : m.Ok) (hb : Bounds m) (h0 : m0.body = List.replicate 96 0) {f : Int} (hf : f = 1 ∨ f = 2 ∨ f = 3 ∨ f = 4 ∨ f = 5 ∨ f = 6 ∨ f = 7) {l r : List UInt8} {pos : Nat} (hl : l.drop pos = fieldB m f ++ r) (hp : pos ≤ l.length) :
    rdField m0 f l pos = some (setF m0 m f, pos + (fieldB m f).length) := by
  rcases hf with rfl | rfl | rfl | rfl | rfl | rfl | rfl
  · have e : fieldB m 1 = enc m.page.toNat := rfl
    rw [e] at hl ⊢
    have := rdNum_enc hb.page.1 (by have := hb.page; omega) hl
    simp [rdField, setF, this]
  · have e : fieldB m 2 = enc m.op.toNat := rfl
    rw [e] at hl ⊢
    have := rdNum_enc hb.op.1 hb.op.2 hl
    simp [rdField, setF, this]
  · have e : fieldB m 3 = enc m.mode.toNat := rfl
    rw [e] at hl ⊢
    have := rdNum_enc hb.mode.1 (by have := hb.mode; omega) hl
    simp [rdField, setF, this]
  · have e : fieldB m 4 = enc m.dest.toNat := rfl
    rw [e] at hl ⊢
    have := rdNum_enc hb.dest.1 (by have := hb.dest; omega) hl
    simp [rdField, setF, this]
  · have e : fieldB m 5 = enc m.psn.toNat := rfl
    rw [e] at hl ⊢
    have := rdNum_enc hb.psn.1 (by have := hb.psn; omega) hl
    simp [rdField, setF, this]
  · have e : fieldB m 6 = flg m.dirty := rfl
    rw [e] at hl ⊢
    unfold flg at hl ⊢
    cases hd : m.dirty <;> rw [hd] at hl <;> simp [rdField, setF, rdFlg, hl, hd]
  · have e : fieldB m 7 = encB (bareB m.body) := rfl
    rw [e] at hl ⊢
    have hlb : (bareB m.body).length ≤ 96 := by unfold bareB; rw [List.length_take]; have := hm.body; omega
    unfold encB at hl ⊢
    have hlen := congrArg List.length hl
    rw [List.length_drop] at hlen
    simp only [List.length_append] at hlen
    have hd : dec 0 0 (l.drop pos) = some ((bareB m.body).length, (enc (bareB m.body).length).length) := by
      rw [hl, List.append_assoc]
      exact dec_enc (by unfold U64; omega) _
    have ht : (l.drop (pos + (enc (bareB m.body).length).length)).take (bareB m.body).length = bareB m.body := by
      rw [← List.drop_drop, hl, List.append_assoc, List.drop_left, List.take_left]
    have hr : rdBody l pos = some (bareB m.body, pos + (enc (bareB m.body).length).length + (bareB m.body).length) := by
      unfold rdBody
      rw [hd]
      simp only
      rw [if_pos ⟨hlb, by omega⟩, ht]
    have hbk := bare_back m.body
    rw [hm.body] at hbk
    simp only [rdField, setF, hr, h0, List.drop_replicate, List.length_append]
    simp [hbk, Nat.add_assoc]
end Go.Proofs.YtemmdlanidepbaaDoor
