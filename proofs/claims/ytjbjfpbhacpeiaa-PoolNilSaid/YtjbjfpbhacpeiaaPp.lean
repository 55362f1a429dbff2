/- A pool of the program's in memory: its places, its map. -/
import Derived.Test.YtjbjfpbhacpeiaaPc
import Derived.Maps.Views
import Derived.Test.YtjbjfpbhacpeiaaChecked
namespace Go.Proofs.Ytjbjfpbhacpeiaa
open Go.RowKit
set_option linter.unusedSimpArgs false
set_option linter.unusedVariables false
set_option maxRecDepth 100000

def full (S : PS) : List Slot := S.s ++ List.replicate (16 - S.s.length) none
def plist (S : PS) (m : Nat) : List Value := (full S).flatMap pcells ++ [.int .i64 (S.s.length : Int), .map (some m), .int .i64 (S.hand : Int)]
theorem pcells_len {x : Slot} (h : SOk x) : (pcells x).length = 105 := by
  cases x with
  | none => simp [pcells, fcells_len fr0_ok]
  | some l => simp [pcells, fcells, bv_len, h l rfl]
theorem scells_len {x : Slot} (h : SOk x) : (scells x).length = 105 := by
  cases x with
  | none => simp [scells, fcells_len fr0_ok]
  | some l => simp [scells, fcells, bv_len, h l rfl]
section
variable {K : Int} {S : PS}
theorem slot_ok (h : S.Ok K) : ∀ x ∈ S.s, SOk x := fun x hx l e => by
  subst e
  obtain ⟨i, hi, e⟩ := List.mem_iff_getElem.1 hx
  exact (h.live i l (by rw [List.getElem?_eq_getElem hi, e])).1.body
theorem full_ok (h : S.Ok K) : ∀ x ∈ full S, (pcells x).length = 105 := fun x hx => by
  rcases List.mem_append.1 hx with hx | hx
  · exact pcells_len (slot_ok h x hx)
  · rw [(List.mem_replicate.1 hx).2]; exact pcells_len (fun l e => by cases e)
theorem full_len (h : S.Ok K) : (full S).length = 16 := by
  have := h.len
  simp [full]; omega
theorem full_get (h : S.Ok K) {i : Nat} (hi : i < S.s.length) : (full S)[i]? = S.s[i]? := by
  rw [full, List.getElem?_append_left hi]
theorem flat_len (h : S.Ok K) : ((full S).flatMap pcells).length = 1680 := by rw [fl_len _ (full_ok h), full_len h]
theorem plist_len (h : S.Ok K) (m : Nat) : (plist S m).length = 1683 := by simp only [plist, List.length_append, flat_len h]; rfl
theorem plist_slot (h : S.Ok K) (m : Nat) {i j : Nat} (hi : i < S.s.length) (hj : j < 105) : (plist S m)[i * 105 + j]? = S.s[i]?.bind fun x => (pcells x)[j]? := by
  have := h.len
  rw [plist, List.getElem?_append_left (by rw [flat_len h]; omega), fl_get _ (full_ok h) i j hj, full_get h hi]
theorem plist_tail (h : S.Ok K) (m : Nat) : (plist S m)[1680]? = some (.int .i64 (S.s.length : Int)) ∧ (plist S m)[1681]? = some (.map (some m)) ∧ (plist S m)[1682]? = some (.int .i64 (S.hand : Int)) := by
  refine ⟨?_, ?_, ?_⟩
  all_goals
    rw [plist, List.getElem?_append_right (by rw [flat_len h]; omega), flat_len h]
    rfl
theorem full_put (i : Nat) (hi : i < S.s.length) (x : Slot) : full (S.put i x) = (full S).set i x := by
  simp only [full, PS.put, List.length_set]
  rw [List.set_append_left _ _ hi]
theorem plist_patch (h : S.Ok K) (m : Nat) {i j : Nat} {x y : Slot} (hi : S.s[i]? = some x) (vs : List Value) (hj : j + vs.length ≤ 105) (e : patch (pcells x) j vs = pcells y) :
    patch (plist S m) (i * 105 + j) vs = plist (S.put i y) m := by
  have hlt : i < S.s.length := (List.getElem?_eq_some_iff.1 hi).1
  have := h.len
  unfold plist
  rw [full_put i hlt y, patch_app_left _ _ _ _ (by rw [flat_len h]; omega), fl_patch (full S) (full_ok h) (by rw [full_get h hlt]; exact hi) vs hj e]
  simp [PS.put]
theorem plist_set (h : S.Ok K) (m : Nat) {i j : Nat} {x y : Slot} (hi : S.s[i]? = some x) (v : Value) (hj : j < 105) (e : (pcells x).set j v = pcells y) (hx : SOk x) :
    (plist S m).set (i * 105 + j) v = plist (S.put i y) m := by
  have hlt : i < S.s.length := (List.getElem?_eq_some_iff.1 hi).1
  have := h.len
  rw [← patch_one _ _ _ (by rw [plist_len h]; omega)]
  exact plist_patch h m hi [v] (by simp; omega) (by rw [patch_one _ _ _ (by rw [pcells_len hx]; exact hj)]; exact e)
theorem plist_hand (h : S.Ok K) (m : Nat) (k : Nat) : (plist S m).set 1682 (.int .i64 (k : Int)) = plist { S with hand := k } m := by
  have e : (plist { S with hand := k } m) = (full S).flatMap pcells ++ [.int .i64 (S.s.length : Int), .map (some m), .int .i64 (k : Int)] := rfl
  rw [e, plist, List.set_append_right _ _ (by rw [flat_len h]; omega), flat_len h]
  rfl

/-! ### the map -/
theorem posF_iff (h : S.Ok K) {q : Int} {i : Nat} : posF q S.s = some i ↔ ∃ l, S.s[i]? = some (some l) ∧ l.f.page = q :=
  ⟨posF_some, fun ⟨l, hi, e⟩ => by subst e; exact posF_of h hi⟩
end
theorem posF_same {K : Int} {S S' : PS} (h : S.Ok K) (h' : S'.Ok K) {q : Int} (e : ∀ i : Nat, (∃ l, S.s[i]? = some (some l) ∧ l.f.page = q) ↔ ∃ l, S'.s[i]? = some (some l) ∧ l.f.page = q) : posF q S'.s = posF q S.s := by
  cases hp : posF q S.s with
  | none =>
    cases hp' : posF q S'.s with
    | none => rfl
    | some j =>
      have := (e j).2 (posF_some hp')
      rw [(posF_iff h).2 this] at hp
      cases hp
  | some i => exact (posF_iff h').2 ((e i).1 (posF_some hp))
def MapR (D : DataW Unit) (s : List Slot) : Prop :=
  (∀ p : Int, I64 p → Maps.has D (.int .i64 p) = (posF p s).isSome ∧ ∀ i : Nat, posF p s = some i → ∀ z, D.atKey (.int .i64 p) z = .lit (.int .i64 (i : Int))) ∧ Maps.size D = cntS s
theorem cnt_set {s : List Slot} : ∀ {i : Nat} {x : Slot}, s[i]? = some x → ∀ y : Slot, cntS (s.set i y) + (if x.isSome then 1 else 0) = cntS s + (if y.isSome then 1 else 0) := by
  induction s with
  | nil => intro i x h; simp at h
  | cons z s ih =>
    intro i x h y
    cases i with
    | zero =>
      simp only [List.getElem?_cons_zero, Option.some.injEq] at h
      subst h
      simp only [cntS, List.set_cons_zero, List.filter_cons]
      cases z <;> cases y <;> simp
    | succ i =>
      have := ih (i := i) (by simpa using h) y
      simp only [cntS, List.set_cons_succ, List.filter_cons] at this ⊢
      cases z <;> simp <;> omega
theorem MapR.same {K : Int} {S : PS} {D : DataW Unit} (hm : MapR D S.s) (h : S.Ok K) {i : Nat} {l l' : Live} (h' : (S.put i (some l')).Ok K) (hi : S.s[i]? = some (some l)) (e : l'.f.page = l.f.page) : MapR D (S.put i (some l')).s := by
  have hp : ∀ q, posF q (S.put i (some l')).s = posF q S.s := fun q => posF_same h h' (fun j => by
    simp only [PS.put, List.getElem?_set]
    by_cases hj : i = j
    · subst hj
      have hlt := (List.getElem?_eq_some_iff.1 hi).1
      rw [if_pos rfl, if_pos hlt, hi]
      simp [e]
    · rw [if_neg hj])
  refine ⟨fun p hpp => by rw [hp]; exact hm.1 p hpp, ?_⟩
  have := cnt_set hi (some l')
  rw [hm.2]
  simp at this
  exact this.symm
theorem MapR.add {K : Int} {S : PS} {D : DataW Unit} (hm : MapR D S.s) (hD : Maps.Tidy D) (h : S.Ok K) {i : Nat} {l : Live} (h' : (S.put i (some l)).Ok K) (hi : S.s[i]? = some none) (hn : posF l.f.page S.s = none) (h64 : I64 l.f.page) :
    MapR (D.put (.int .i64 l.f.page) (.lit (.int .i64 (i : Int)))) (S.put i (some l)).s := by
  have hlt := (List.getElem?_eq_some_iff.1 hi).1
  have hk : WideAt.IsKeyLit (.int .i64 l.f.page) := by simp [WideAt.IsKeyLit]
  have ho : ∀ q, q ≠ l.f.page → posF q (S.put i (some l)).s = posF q S.s := fun q hq => posF_same h h' (fun j => by
    simp only [PS.put, List.getElem?_set]
    by_cases hj : i = j
    · subst hj
      rw [if_pos rfl, if_pos hlt, hi]
      simp [Ne.symm hq]
    · rw [if_neg hj])
  have hs : posF l.f.page (S.put i (some l)).s = some i := (posF_iff h').2 ⟨l, by simp [PS.put, hlt], rfl⟩
  refine ⟨fun p hpp => ?_, ?_⟩
  · by_cases hq : p = l.f.page
    · subst hq
      rw [hs, Maps.has_put_same hD.isMap hk]
      refine ⟨rfl, fun j hj z => ?_⟩
      injection hj with hj
      subst hj
      exact Maps.atKey_put_same hD.isMap hk _ _
    · have hne : (Lit.int .i64 p) ≠ .int .i64 l.f.page := fun e => hq (by injection e)
      rw [ho p hq, Maps.has_put_other hne]
      refine ⟨(hm.1 p hpp).1, fun j hj z => ?_⟩
      rw [Maps.atKey_put_other hne]
      exact (hm.1 p hpp).2 j hj z
  · have := cnt_set hi (some l)
    rw [Maps.size_put hD, (hm.1 _ h64).1, hn, hm.2]
    change cntS (S.put i (some l)).s + _ = _ at this
    simp at this ⊢
    exact this.symm
theorem MapR.drop {K : Int} {S : PS} {D : DataW Unit} (hm : MapR D S.s) (hD : Maps.Tidy D) (h : S.Ok K) {i : Nat} {l : Live} (hi : S.s[i]? = some (some l)) :
    MapR (D.del (.int .i64 l.f.page)) (S.put i none).s := by
  have h' := h.free i
  have h64 := (h.live i l hi).1.page
  have hlt := (List.getElem?_eq_some_iff.1 hi).1
  have hp := posF_of h hi
  have ho : ∀ q, q ≠ l.f.page → posF q (S.put i none).s = posF q S.s := fun q hq => posF_same h h' (fun j => by
    simp only [PS.put, List.getElem?_set]
    by_cases hj : i = j
    · subst hj
      rw [if_pos rfl, if_pos hlt, hi]
      simp [Ne.symm hq]
    · rw [if_neg hj])
  have hs : posF l.f.page (S.put i none).s = none := by
    cases hq : posF l.f.page (S.put i none).s with
    | none => rfl
    | some j =>
      obtain ⟨l', hj, e⟩ := posF_some hq
      simp only [PS.put, List.getElem?_set] at hj
      split at hj
      · simp at hj
      · rename_i hne
        exact absurd (h.uniq j i l' l hj hi e).symm hne
  refine ⟨fun p hpp => ?_, ?_⟩
  · by_cases hq : p = l.f.page
    · subst hq
      rw [hs, Maps.has_del_same]
      exact ⟨rfl, fun j hj => by cases hj⟩
    · have hne : (Lit.int .i64 p) ≠ .int .i64 l.f.page := fun e => hq (by injection e)
      rw [ho p hq, Maps.has_del_other hne]
      refine ⟨(hm.1 p hpp).1, fun j hj z => ?_⟩
      rw [Maps.atKey_del_other hne]
      exact (hm.1 p hpp).2 j hj z
  · have := cnt_set hi none
    have h2 := Maps.size_del (k := .int .i64 l.f.page) hD
    rw [(hm.1 _ h64).1, hp, hm.2] at h2
    change cntS (S.put i none).s + _ = _ at this
    simp at this h2
    omega
theorem MapR.empty (n : Nat) : MapR (.map []) (S0 n).s := by
  have hn : ∀ (p : Int) (n k : Nat), firstF (Slot.has p) (List.replicate n none) k = none := fun p n => by
    induction n with
    | zero => intro k; rfl
    | succ n ih => intro k; rw [List.replicate_succ, firstF, if_neg (by simp [Slot.has]), ih]
  refine ⟨fun p _ => ?_, by simp [S0, cntS, Maps.size]⟩
  rw [show posF p (S0 n).s = none from hn p n 0]
  exact ⟨rfl, fun i hi => by cases hi⟩
theorem owns_tight {w : World} {P : Program} {k : TypeId} {R : Value → Option (DataW Unit × List MemPlace)} {b n : Nat} {D : DataW Unit} (h : w.ownsMap P k R b n D) : w.ownsMap P k R b (Maps.size D) D := by
  obtain ⟨es, clock, hb, F, _, rfl⟩ := h
  exact ⟨es, clock, hb, F, by simp [Maps.size, length_sorted], rfl⟩
abbrev OwnsI (w : World) (m n : Nat) (D : DataW Unit) : Prop := w.ownsMap (H := Unit) Try.prog 3 (plainElem Try.prog 3) m n D
/-- a pool of the program's -/
structure PoolAt (w : World) (b m : Nat) (S : PS) : Prop where
  cells : PCells w b (plist S m) 70
  map : ∃ D, OwnsI w m (Maps.size D) D ∧ MapR D S.s
theorem cnt_le (s : List Slot) : cntS s ≤ s.length := List.length_filter_le _ _
end Go.Proofs.Ytjbjfpbhacpeiaa
