/- What bytes say as a message: plain Lean. What was written is read as it was: messages. Plain Lean. What is read is a message. Plain Lean. -/
import Derived.Test.YtemmdlanidepbaaDoorPutWalk
import Derived.Test.YtemmdlanidepbaaDoorDec2
namespace Go.Proofs.YtemmdlanidepbaaDoor
open Go.RowKit
set_option linter.unusedSimpArgs false

/-- a number that is none too great: it, and the place behind it -/
def rdNum (l : List UInt8) (pos : Nat) : Option (Int × Nat) := match dec 0 0 (l.drop pos) with
  | none => none
  | some (x, k) => if x ≤ 4611686018427387904 then some ((x : Int), pos + k) else none
/-- a body: its bytes -/
def rdBody (l : List UInt8) (pos : Nat) : Option (List UInt8 × Nat) := match dec 0 0 (l.drop pos) with
  | none => none
  | some (x, k) => if x ≤ 96 ∧ pos + k + x ≤ l.length then some ((l.drop (pos + k)).take x, pos + k + x) else none
/-- a flag -/
def rdFlg (l : List UInt8) (pos : Nat) : Option (Bool × Nat) := match l.drop pos with
  | [] => none
  | b :: _ => if b.toNat ≤ 1 then some (b.toNat == 1, pos + 1) else none
/-- a field is read into a message -/
def rdField (m : Msg) (f : Int) (l : List UInt8) (pos : Nat) : Option (Msg × Nat) :=
  if f = 1 then (rdNum l pos).map fun r => ({ m with page := r.1 }, r.2)
  else if f = 2 then (rdNum l pos).map fun r => ({ m with op := r.1 }, r.2)
  else if f = 3 then (rdNum l pos).map fun r => ({ m with mode := r.1 }, r.2)
  else if f = 4 then (rdNum l pos).map fun r => ({ m with dest := r.1 }, r.2)
  else if f = 5 then (rdNum l pos).map fun r => ({ m with psn := r.1 }, r.2)
  else if f = 6 then (rdFlg l pos).map fun r => ({ m with dirty := r.1 }, r.2)
  else if f = 7 then (rdBody l pos).map fun r => ({ m with body := r.1 ++ m.body.drop r.1.length }, r.2)
  else some (m, pos)
def rdFields : List Int → Msg → List UInt8 → Nat → Option (Msg × Nat)
  | [], m, _, pos => some (m, pos)
  | f :: L, m, l, pos => match rdField m f l pos with
    | none => none
    | some (m1, p1) => rdFields L m1 l p1
/-- a message of a kind, and nothing else -/
def bareM (k : Int) : Msg := ⟨k, 0, 0, 0, 0, 0, false, List.replicate 96 0⟩
/-- what bytes say, and the place behind it -/
def parse (l : List UInt8) : Option (Msg × Nat) := match rdNum l 0 with
  | none => none
  | some (k, p) => rdFields (fieldsOf k) (bareM k) l p

def setF (m0 m : Msg) (f : Int) : Msg :=
  if f = 1 then { m0 with page := m.page } else if f = 2 then { m0 with op := m.op } else if f = 3 then { m0 with mode := m.mode } else if f = 4 then { m0 with dest := m.dest }
  else if f = 5 then { m0 with psn := m.psn } else if f = 6 then { m0 with dirty := m.dirty } else if f = 7 then { m0 with body := m.body } else m0

theorem rdNum_enc {z : Int} (h0 : 0 ≤ z) (h1 : z ≤ 4611686018427387904) {l r : List UInt8} {pos : Nat} (hl : l.drop pos = enc z.toNat ++ r) : rdNum l pos = some (z, pos + (enc z.toNat).length) := by
  unfold rdNum
  rw [hl, dec_enc (by unfold U64; omega)]
  simp only
  rw [if_pos (by omega), Int.toNat_of_nonneg h0]
theorem blen_rest (l : List UInt8) : ∀ n, n ≤ l.length → (l.take n).drop (blen l n) = List.replicate (n - blen l n) 0 := by
  intro n
  induction n with
  | zero => intro _; simp [blen]
  | succ n ih =>
    intro hn
    rw [blen]
    split
    · rename_i h0
      have hle := blen_le l n
      have e : l.take (n + 1) = l.take n ++ [0] := by
        rw [List.take_succ_eq_append_getElem (by omega)]
        rw [List.getElem?_eq_getElem (by omega)] at h0
        injection h0 with h0
        rw [h0]
      rw [e, List.drop_append_of_le_length (by rw [List.length_take]; omega), ih (by omega), show n + 1 - blen l n = (n - blen l n) + 1 by omega, List.replicate_succ']
    · rw [List.drop_eq_nil_of_le (by rw [List.length_take]; omega)]
      simp
theorem bare_back (l : List UInt8) : bareB l ++ List.replicate (l.length - (bareB l).length) 0 = l := by
  have h := blen_rest l l.length (Nat.le_refl _)
  have hle := blen_le l l.length
  have e : (bareB l).length = blen l l.length := by unfold bareB; rw [List.length_take]; omega
  rw [e]
  rw [List.take_length] at h
  rw [← h]
  unfold bareB
  rw [List.take_append_drop]
theorem rdField_put {m0 m : Msg} (hm : m.Ok) (hb : Bounds m) (h0 : m0.body = List.replicate 96 0) {f : Int} (hf : f = 1 ∨ f = 2 ∨ f = 3 ∨ f = 4 ∨ f = 5 ∨ f = 6 ∨ f = 7) {l r : List UInt8} {pos : Nat} (hl : l.drop pos = fieldB m f ++ r) (hp : pos ≤ l.length) :
    rdField m0 f l pos = some (setF m0 m f, pos + (fieldB m f).length) := by
  rcases hf with rfl | rfl | rfl | rfl | rfl | rfl | rfl
  · have e : fieldB m 1 = enc m.page.toNat := rfl
    rw [e] at hl ⊢
    have := rdNum_enc hb.page.1 (by have := hb.page; omega) hl
    simp [rdField, setF, this]
  · have e : fieldB m 2 = enc m.op.toNat := rfl
    rw [e] at hl ⊢
    have := rdNum_enc hb.op.1 hb.op.2 hl
    simp [rdField, setF, this]
  · have e : fieldB m 3 = enc m.mode.toNat := rfl
    rw [e] at hl ⊢
    have := rdNum_enc hb.mode.1 (by have := hb.mode; omega) hl
    simp [rdField, setF, this]
  · have e : fieldB m 4 = enc m.dest.toNat := rfl
    rw [e] at hl ⊢
    have := rdNum_enc hb.dest.1 (by have := hb.dest; omega) hl
    simp [rdField, setF, this]
  · have e : fieldB m 5 = enc m.psn.toNat := rfl
    rw [e] at hl ⊢
    have := rdNum_enc hb.psn.1 (by have := hb.psn; omega) hl
    simp [rdField, setF, this]
  · have e : fieldB m 6 = flg m.dirty := rfl
    rw [e] at hl ⊢
    unfold flg at hl ⊢
    cases hd : m.dirty <;> rw [hd] at hl <;> simp [rdField, setF, rdFlg, hl, hd]
  · have e : fieldB m 7 = encB (bareB m.body) := rfl
    rw [e] at hl ⊢
    have hlb : (bareB m.body).length ≤ 96 := by unfold bareB; rw [List.length_take]; have := hm.body; omega
    unfold encB at hl ⊢
    have hlen := congrArg List.length hl
    rw [List.length_drop] at hlen
    simp only [List.length_append] at hlen
    have hd : dec 0 0 (l.drop pos) = some ((bareB m.body).length, (enc (bareB m.body).length).length) := by
      rw [hl, List.append_assoc]
      exact dec_enc (by unfold U64; omega) _
    have ht : (l.drop (pos + (enc (bareB m.body).length).length)).take (bareB m.body).length = bareB m.body := by
      rw [← List.drop_drop, hl, List.append_assoc, List.drop_left, List.take_left]
    have hr : rdBody l pos = some (bareB m.body, pos + (enc (bareB m.body).length).length + (bareB m.body).length) := by
      unfold rdBody
      rw [hd]
      simp only
      rw [if_pos ⟨hlb, by omega⟩, ht]
    have hbk := bare_back m.body
    rw [hm.body] at hbk
    simp only [rdField, setF, hr, h0, List.drop_replicate, List.length_append]
    simp [hbk, Nat.add_assoc]
end Go.Proofs.YtemmdlanidepbaaDoor
namespace Go.Proofs.YtemmdlanidepbaaDoor
open Go.RowKit
set_option linter.unusedSimpArgs false

theorem setF_body {m0 m : Msg} {f : Int} (h : f ≠ 7) : (setF m0 m f).body = m0.body := by
  unfold setF
  repeat' split
  all_goals first | rfl | (exfalso; omega)
theorem rdFields_put {m : Msg} (hm : m.Ok) (hb : Bounds m) (l : List UInt8) : ∀ (L : List Int) (m0 : Msg) (pos : Nat) (r : List UInt8), m0.body = List.replicate 96 0 → (∀ f ∈ L, f = 1 ∨ f = 2 ∨ f = 3 ∨ f = 4 ∨ f = 5 ∨ f = 6 ∨ f = 7) → 7 ∉ L.dropLast →
    l.drop pos = (L.map (fieldB m)).flatten ++ r → pos ≤ l.length → rdFields L m0 l pos = some (L.foldl (fun a f => setF a m f) m0, pos + ((L.map (fieldB m)).flatten).length) := by
  intro L
  induction L with
  | nil => intro m0 pos r _ _ _ _ _; simp [rdFields]
  | cons f L ih =>
    intro m0 pos r h0 hf h7 hl hp
    rw [List.map_cons, List.flatten_cons, List.append_assoc] at hl
    have h1 := rdField_put hm hb h0 (hf f (by simp)) hl hp
    simp only [rdFields, h1, List.foldl_cons, List.map_cons, List.flatten_cons, List.length_append]
    have hlen := congrArg List.length hl
    rw [List.length_drop, List.length_append] at hlen
    cases L with
    | nil => simp [rdFields]
    | cons f2 L =>
      have hne : f ≠ 7 := fun e => h7 (by rw [e]; simp)
      rw [ih (setF m0 m f) (pos + (fieldB m f).length) r (by rw [setF_body hne]; exact h0) (fun x hx => hf x (List.mem_cons_of_mem _ hx)) (fun hx => h7 (by rw [List.dropLast_cons_cons]; exact List.mem_cons_of_mem _ hx)) (by rw [← List.drop_drop, hl, List.drop_left]) (by omega)]
      simp only [Nat.add_assoc]
theorem fieldsOf_last (k : Int) : 7 ∉ (fieldsOf k).dropLast := by
  by_cases h : 1 ≤ k ∧ k ≤ 13
  · rcases kind_cases h with rfl | rfl | rfl | rfl | rfl | rfl | rfl | rfl | rfl | rfl | rfl | rfl | rfl
    all_goals decide
  · rw [fieldsOf_out h]; simp
/-- what a message that may be has not, is nought -/
structure Noughts (m : Msg) : Prop where
  op : (2 : Int) ∉ fieldsOf m.kind → m.op = 0
  mode : (3 : Int) ∉ fieldsOf m.kind → m.mode = 0
  dest : (4 : Int) ∉ fieldsOf m.kind → m.dest = 0
  psn : (5 : Int) ∉ fieldsOf m.kind → m.psn = 0
  dirty : (6 : Int) ∉ fieldsOf m.kind → m.dirty = false
  body : (7 : Int) ∉ fieldsOf m.kind → m.body = List.replicate 96 0
theorem noughts_of {m : Msg} (h : mayM m = true) : Noughts m := by
  have hb := bounds_of h
  unfold mayM at h
  simp only [Bool.and_eq_true, Bool.not_eq_true'] at h
  obtain ⟨⟨⟨h1, h2⟩, h3⟩, h4⟩ := h
  simp only [may2, Bool.or_eq_false_iff, decide_eq_false_iff_not, Bool.and_eq_false_iff] at h2
  simp only [may3, Bool.or_eq_false_iff, decide_eq_false_iff_not, Bool.and_eq_false_iff] at h3
  have k : ∀ f : Int, f ∉ fieldsOf m.kind → hasB m.kind f = false := fun f hf => by simp [hasB, hf]
  refine ⟨fun hf => ?_, fun hf => ?_, fun hf => ?_, fun hf => ?_, fun hf => ?_, fun hf => ?_⟩
  · rw [k 2 hf] at h2
    have := h2.1.1.1.1
    have := hb.op
    simp at *
    omega
  · rw [k 3 hf] at h2
    have := h2.2
    simpa using this
  · rw [k 4 hf] at h3
    have := h3.1.1.1.1
    simpa using this
  · rw [k 5 hf] at h4
    simpa [may4] using h4
  · rw [k 6 hf] at h3
    have := h3.1.2
    simpa using this
  · rw [k 7 hf] at h3
    have := h3.2
    simpa [bodyZ] using this
theorem fold_all {m : Msg} (hn : Noughts m) (hk : 1 ≤ m.kind ∧ m.kind ≤ 13) : (fieldsOf m.kind).foldl (fun a f => setF a m f) (bareM m.kind) = m := by
  obtain ⟨n2, n3, n4, n5, n6, n7⟩ := hn
  obtain ⟨k, page, op, mode, dest, psn, dirty, body⟩ := m
  simp only at n2 n3 n4 n5 n6 n7 hk ⊢
  rcases kind_cases hk with rfl | rfl | rfl | rfl | rfl | rfl | rfl | rfl | rfl | rfl | rfl | rfl | rfl
  all_goals
    simp [fieldsOf] at n2 n3 n4 n5 n6 n7
    simp [fieldsOf, bareM, setF, *]
/-- what was written is read as it was -/
theorem parse_put {m : Msg} (hm : m.Ok) (h : mayM m = true) (r : List UInt8) : parse (putB m ++ r) = some (m, (putB m).length) := by
  have hb := bounds_of h
  have hn := noughts_of h
  have hk := rdNum_enc (z := m.kind) (by have := hb.kind; omega) (by have := hb.kind; omega) (l := putB m ++ r) (r := ((fieldsOf m.kind).map (fieldB m)).flatten ++ r) (pos := 0) (by unfold putB; simp)
  unfold parse
  rw [hk]
  simp only [Nat.zero_add]
  rw [rdFields_put hm hb (putB m ++ r) (fieldsOf m.kind) (bareM m.kind) (enc m.kind.toNat).length r rfl (fun f hf => fields_range hf) (fieldsOf_last _) (by unfold putB; rw [List.append_assoc, List.drop_left]) (by unfold putB; simp)]
  rw [fold_all hn hb.kind]
  unfold putB
  rw [List.length_append]
end Go.Proofs.YtemmdlanidepbaaDoor
namespace Go.Proofs.YtemmdlanidepbaaDoor
open Go.RowKit
set_option linter.unusedSimpArgs false

theorem rdNum_range {l : List UInt8} {pos : Nat} {z : Int} {p : Nat} (h : rdNum l pos = some (z, p)) : 0 ≤ z ∧ z ≤ 4611686018427387904 := by
  unfold rdNum at h
  split at h
  · cases h
  · split at h
    · injection h with h
      injection h with h _
      subst h
      exact ⟨by omega, by omega⟩
    · cases h
theorem rdBody_len {l : List UInt8} {pos : Nat} {b : List UInt8} {p : Nat} (h : rdBody l pos = some (b, p)) : b.length ≤ 96 := by
  unfold rdBody at h
  split at h
  · cases h
  · split at h
    · injection h with h
      injection h with h _
      subst h
      simp only [List.length_take]
      omega
    · cases h
theorem i64_of {z : Int} (h : 0 ≤ z ∧ z ≤ 4611686018427387904) : I64 z := by unfold I64; omega
theorem rdField_ok {m m1 : Msg} {f : Int} {l : List UInt8} {pos p1 : Nat} (hm : m.Ok) (h : rdField m f l pos = some (m1, p1)) : m1.Ok := by
  unfold rdField at h
  repeat' split at h
  all_goals try (
    cases hr : rdNum l pos with
    | none => rw [hr] at h; cases h
    | some r =>
      have hz := i64_of (rdNum_range (z := r.1) (p := r.2) hr)
      rw [hr] at h
      injection h with h
      injection h with h _
      subst h
      constructor <;> first | exact hz | exact hm.kind | exact hm.page | exact hm.op | exact hm.mode | exact hm.dest | exact hm.psn | exact hm.body)
  · cases hr : rdFlg l pos with
    | none => rw [hr] at h; cases h
    | some r =>
      rw [hr] at h
      injection h with h
      injection h with h _
      subst h
      exact ⟨hm.kind, hm.page, hm.op, hm.mode, hm.dest, hm.psn, hm.body⟩
  · cases hr : rdBody l pos with
    | none => rw [hr] at h; cases h
    | some r =>
      have hl := rdBody_len (b := r.1) (p := r.2) hr
      rw [hr] at h
      injection h with h
      injection h with h _
      subst h
      refine ⟨hm.kind, hm.page, hm.op, hm.mode, hm.dest, hm.psn, ?_⟩
      have := hm.body
      simp only [List.length_append, List.length_drop]
      omega
  · injection h with h
    injection h with h _
    subst h
    exact hm
theorem rdFields_ok {l : List UInt8} {m1 : Msg} {p1 : Nat} : ∀ (L : List Int) (m : Msg) (pos : Nat), m.Ok → rdFields L m l pos = some (m1, p1) → m1.Ok := by
  intro L
  induction L with
  | nil =>
    intro m pos hm h
    simp only [rdFields] at h
    injection h with h
    injection h with h _
    subst h
    exact hm
  | cons f L ih =>
    intro m pos hm h
    simp only [rdFields] at h
    split at h
    · cases h
    · rename_i m2 p2 hf
      exact ih m2 p2 (rdField_ok hm hf) h
theorem parse_ok {l : List UInt8} {m : Msg} {p : Nat} (h : parse l = some (m, p)) : m.Ok := by
  unfold parse at h
  split at h
  · cases h
  · rename_i k p0 hr
    have hz := i64_of (rdNum_range hr)
    refine rdFields_ok _ _ _ ?_ h
    have h0 : I64 0 := by unfold I64; omega
    exact ⟨hz, h0, h0, h0, h0, h0, List.length_replicate⟩
end Go.Proofs.YtemmdlanidepbaaDoor
