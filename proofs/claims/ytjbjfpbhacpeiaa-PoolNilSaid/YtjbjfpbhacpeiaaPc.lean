/- Pools in memory: cells, blocks, how they stand behind writes. -/
import Derived.Test.YtjbjfpbhacpeiaaPm
import Derived.Test.YtjbjfpbhacpeiaaSeq
import Derived.Deep.MidRow
import Derived.Maps.OwnSet
import Derived.Maps.OwnOps
import Derived.Laws.CopyRow
import Derived.Laws.Tables
import Derived.Laws.Rows
namespace Go.Proofs.Ytjbjfpbhacpeiaa
open Go.RowKit
set_option linter.unusedSimpArgs false
set_option maxRecDepth 100000

/-! ### lists of blocks of one length -/
section
variable {α β : Type}
theorem app_take (A B : List β) (n k : Nat) (h : n = A.length + k) : (A ++ B).take n = A ++ B.take k := by
  subst h
  rw [List.take_append, List.take_of_length_le (by omega), show A.length + k - A.length = k by omega]
theorem app_drop (A B : List β) (n k : Nat) (h : n = A.length + k) : (A ++ B).drop n = B.drop k := by
  subst h
  rw [List.drop_append, List.drop_of_length_le (by omega), show A.length + k - A.length = k by omega, List.nil_append]
theorem fl_len {f : α → List β} {c : Nat} : ∀ L : List α, (∀ x ∈ L, (f x).length = c) → (L.flatMap f).length = L.length * c
  | [], _ => by simp
  | x :: L, hf => by rw [List.flatMap_cons, List.length_append, hf x (by simp), fl_len L (fun y hy => hf y (by simp [hy])), List.length_cons, Nat.succ_mul, Nat.add_comm]
theorem fl_get {f : α → List β} {c : Nat} : ∀ (L : List α), (∀ x ∈ L, (f x).length = c) → ∀ (i j : Nat), j < c → (L.flatMap f)[i * c + j]? = L[i]?.bind fun x => (f x)[j]?
  | [], _, i, j, _ => by simp
  | x :: L, hf, 0, j, h => by
    rw [List.flatMap_cons, Nat.zero_mul, Nat.zero_add, List.getElem?_append_left (by rw [hf x (by simp)]; exact h)]
    rfl
  | x :: L, hf, i + 1, j, h => by
    rw [List.flatMap_cons, List.getElem?_append_right (by rw [hf x (by simp), Nat.succ_mul]; omega), hf x (by simp), show (i + 1) * c + j - c = i * c + j by rw [Nat.succ_mul]; omega, fl_get L (fun y hy => hf y (by simp [hy])) i j h]
    rfl
theorem fl_set {f : α → List β} {c : Nat} : ∀ (L : List α), (∀ x ∈ L, (f x).length = c) → ∀ {i : Nat} {x : α}, L[i]? = some x → ∀ (y : α), (L.set i y).flatMap f = (L.flatMap f).take (i * c) ++ f y ++ (L.flatMap f).drop (i * c + c)
  | [], _, _, _, hi, _ => by simp at hi
  | z :: L, hf, 0, x, hi, y => by
    have hz := hf z (by simp)
    simp only [List.set_cons_zero, List.flatMap_cons, Nat.zero_mul, List.take_zero, List.nil_append, Nat.zero_add]
    rw [app_drop _ _ _ 0 (by omega), List.drop_zero]
  | z :: L, hf, i + 1, x, hi, y => by
    have hz := hf z (by simp)
    have := fl_set L (fun y hy => hf y (by simp [hy])) (i := i) (by simpa using hi) y
    simp only [List.set_cons_succ, List.flatMap_cons, this]
    rw [app_take _ _ _ (i * c) (by rw [hz, Nat.succ_mul]; omega), app_drop _ _ _ (i * c + c) (by rw [hz, Nat.succ_mul]; omega)]
    simp [List.append_assoc]
theorem fl_split {f : α → List β} {c : Nat} (L : List α) (hf : ∀ x ∈ L, (f x).length = c) {i : Nat} {x : α} (hi : L[i]? = some x) : L.flatMap f = (L.flatMap f).take (i * c) ++ f x ++ (L.flatMap f).drop (i * c + c) := by
  have := fl_set L hf hi x
  have e : L.set i x = L := by
    obtain ⟨h1, h2⟩ := List.getElem?_eq_some_iff.1 hi
    subst h2
    exact List.set_getElem_self h1
  rwa [e] at this
/-- cells laid over others -/
def patch (A : List β) (o : Nat) (vs : List β) : List β := A.take o ++ vs ++ A.drop (o + vs.length)
theorem patch_len (A : List β) (o : Nat) (vs : List β) (h : o + vs.length ≤ A.length) : (patch A o vs).length = A.length := by
  simp [patch]; omega
theorem patch_one (A : List β) (o : Nat) (v : β) (h : o < A.length) : patch A o [v] = A.set o v := by
  unfold patch
  rw [List.set_eq_take_append_cons_drop, if_pos h]
  simp
theorem patch_app_left (A B : List β) (o : Nat) (vs : List β) (h : o + vs.length ≤ A.length) : patch (A ++ B) o vs = patch A o vs ++ B := by
  unfold patch
  rw [List.take_append, List.drop_append, show o - A.length = 0 by omega, show o + vs.length - A.length = 0 by omega]
  simp [List.append_assoc]
theorem patch_mid (A X B : List β) (o : Nat) (vs : List β) (h : o + vs.length ≤ X.length) : patch (A ++ X ++ B) (A.length + o) vs = A ++ patch X o vs ++ B := by
  rw [patch_app_left _ _ _ _ (by simp; omega)]
  unfold patch
  rw [List.take_append, List.drop_append, List.take_of_length_le (by omega), List.drop_of_length_le (by omega), show A.length + o - A.length = o by omega, show A.length + o + vs.length - A.length = o + vs.length by omega]
  simp [List.append_assoc]
/-- one block turned in part -/
theorem fl_patch {f : α → List β} {c : Nat} (L : List α) (hf : ∀ x ∈ L, (f x).length = c) {i j : Nat} {x y : α} (hi : L[i]? = some x) (vs : List β) (hj : j + vs.length ≤ c) (e : patch (f x) j vs = f y) :
    patch (L.flatMap f) (i * c + j) vs = (L.set i y).flatMap f := by
  rw [fl_set L hf hi y, ← e]
  conv => lhs; rw [fl_split L hf hi]
  have hlt : i < L.length := (List.getElem?_eq_some_iff.1 hi).1
  have hl : ((L.flatMap f).take (i * c)).length = i * c := by
    rw [List.length_take, fl_len L hf]
    exact Nat.min_eq_left (Nat.mul_le_mul_right c (Nat.le_of_lt hlt))
  have := patch_mid ((L.flatMap f).take (i * c)) (f x) ((L.flatMap f).drop (i * c + c)) j vs (by rw [hf x (List.mem_of_getElem? hi)]; exact hj)
  rw [hl] at this
  exact this
end

/-! ### a block of cells -/
def PCells (w : World) (b : Nat) (A : List Value) (t : TypeId) : Prop := w.heap[b]? = some (.cells A.toArray t (0, 0))
theorem PCells.lt {w : World} {b : Nat} {A : List Value} {t : TypeId} (h : PCells w b A t) : b < w.heap.size := (Array.getElem?_eq_some_iff.1 h).1
theorem PCells.cell {w : World} {b : Nat} {A : List Value} {t : TypeId} (h : PCells w b A t) (o : Nat) : w.cell? ⟨b, o, none⟩ = A[o]? := by
  simp [World.cell?, show w.heap[b]? = _ from h]
theorem PCells.frozen {w : World} {b : Nat} {A : List Value} {t : TypeId} (h : PCells w b A t) (o : Nat) : w.frozen? ⟨b, o, none⟩ = false := by
  simp [World.frozen?, show w.heap[b]? = _ from h]
theorem PCells.set {w : World} {b : Nat} {A : List Value} {t : TypeId} (h : PCells w b A t) (o : Nat) (v : Value) : PCells (w.setCell ⟨b, o, none⟩ v) b (A.set o v) t := by
  obtain ⟨hlt, hk⟩ := Array.getElem?_eq_some_iff.1 h
  show (w.heap.modify b _)[b]? = _
  rw [Array.getElem?_eq_getElem (by rw [Array.size_modify]; exact hlt), Array.getElem_modify_self, hk]
  simp
theorem patch_cons (A : List Value) (o : Nat) (v : Value) (vs : List Value) (hl : o + (vs.length + 1) ≤ A.length) : patch (A.set o v) (o + 1) vs = patch A o (v :: vs) := by
  have hs : A.set o v = A.take o ++ v :: A.drop (o + 1) := by rw [List.set_eq_take_append_cons_drop, if_pos (by omega)]
  have h0 : (A.take o).length = o := by rw [List.length_take]; omega
  unfold patch
  rw [hs, app_take _ _ (o + 1) 1 (by omega), app_drop _ _ (o + 1 + vs.length) (1 + vs.length) (by omega)]
  simp [Nat.add_comm 1, Nat.add_assoc]
theorem PCells.sets {b : Nat} {t : TypeId} : ∀ (vs : List Value) {A : List Value} {o : Nat} {w : World}, PCells w b A t → o + vs.length ≤ A.length → PCells (w.setCells b o vs) b (patch A o vs) t
  | [], A, o, w, h, _ => by simpa [World.setCells, patch] using h
  | v :: vs, A, o, w, h, hl => by
    simp only [List.length_cons] at hl
    rw [World.setCells, ← patch_cons A o v vs hl]
    exact PCells.sets vs (h.set o v) (by rw [List.length_set]; omega)
theorem PCells.range {w : World} {b : Nat} {A : List Value} {t : TypeId} (h : PCells w b A t) (o : Nat) (cs : List Value) (hc : ∀ j v, cs[j]? = some v → A[o + j]? = some v) : w.rangeAt b o cs := fun j v hj => by
  rw [h.cell]; exact hc j v hj
theorem PCells.there {w : World} {b : Nat} {A : List Value} {t : TypeId} (h : PCells w b A t) (o n : Nat) (hl : o + n ≤ A.length) : w.there b o n := fun j hj => by
  rw [h.cell, h.frozen, List.getElem?_eq_getElem (by omega)]
  simp
theorem PCells.kept {w w' : World} {b : Nat} {A : List Value} {t : TypeId} {T : Nat → Prop} (h : PCells w b A t) (hx : Ex T w w') (hT : ¬ T b) : PCells w' b A t := (hx.block b h.lt hT).trans h
theorem PCells.new (w : World) (A : Array Value) (t : TypeId) : PCells (w.alloc (.cells A t)) w.heap.size A.toList t := by
  have := heap_alloc_new w (.cells A t)
  unfold PCells
  rw [this]
theorem setCells_ex {T : Nat → Prop} {b : Nat} : ∀ (vs : List Value) (o : Nat) (w : World), T b → Ex T w (w.setCells b o vs)
  | [], _, w, _ => Ex.refl T w
  | v :: vs, o, w, h => by
    rw [World.setCells]
    exact Ex.trans (b := w.setCell ⟨b, o, none⟩ v) ⟨rfl, rfl, rfl, by simp [World.setCell], fun k _ hk => Below.heap_setCell w ⟨b, o, none⟩ v k (fun e => hk (by rw [show k = b from e]; exact h))⟩ (setCells_ex vs (o + 1) _ h)
theorem setCell_ex {T : Nat → Prop} {b : Nat} (o : Nat) (v : Value) (w : World) (h : T b) : Ex T w (w.setCell ⟨b, o, none⟩ v) := setCells_ex [v] o w h
theorem Ex.mono {T T' : Nat → Prop} {w w' : World} (h : Ex T w w') (hT : ∀ k, T k → T' k) : Ex T' w w' := ⟨h.os, h.tape, h.output, h.size, fun k hk hn => h.block k hk (fun e => hn (hT k e))⟩
theorem Ex.toBelow {T : Nat → Prop} {B : Nat} {w w' : World} (h : Ex T w w') (hB : B ≤ w.heap.size) (hT : ∀ k, T k → B ≤ k) : Below B w w' := ⟨h.os, h.tape, h.output, h.size, fun k hk => h.block k (by omega) (fun e => by have := hT k e; omega)⟩
theorem Ex.alloc (T : Nat → Prop) (w : World) (o : Obj) : Ex T w (w.alloc o) := Ex.below ((Below.refl _ w).alloc (Nat.le_refl _) o)

/-! ### a frame, a place -/
def fcells (f : Fr) : List Value := ([.int .i64 f.page, .int .i64 f.mode, .int .i64 f.op, .int .i64 f.first, .int .i64 f.psn] : List Value) ++ bv f.body ++ [.bool f.dirty]
theorem fcells_len {f : Fr} (h : f.Ok) : (fcells f).length = 102 := by simp [fcells, bv_len, h.body]
theorem fcells_one (f : Fr) : ∀ u ∈ fcells f, u.oneCell' = true := by
  intro u hu
  simp only [fcells, List.mem_append, List.mem_cons, List.not_mem_nil, or_false] at hu
  rcases hu with ((rfl | rfl | rfl | rfl | rfl) | hu) | rfl
  all_goals first | rfl | exact bv_one _ u hu
def fA (f : Fr) : Array Value := (fcells f).toArray
theorem fA_list (f : Fr) : (fA f).toList = fcells f := rfl
theorem bv_inj {l m : List UInt8} (h : bv l = bv m) : l = m := by
  induction l generalizing m with
  | nil => cases m with
    | nil => rfl
    | cons y m => simp [bv] at h
  | cons x l ih =>
    cases m with
    | nil => simp [bv] at h
    | cons y m =>
      simp only [bv, List.map_cons, List.cons.injEq, Value.int.injEq, true_and] at h
      have hx : x.toNat = y.toNat := by omega
      rw [ih h.2, UInt8.toNat_inj.1 hx]
/-- a place of the program's -/
def pcells : Slot → List Value
  | none => [.bool false, .bool false, .int .i64 0] ++ fcells fr0
  | some l => [.bool true, .bool l.used, .int .i64 l.pins] ++ fcells l.f
/-- a place of the document's -/
def scells : Slot → List Value
  | none => [.bool false] ++ fcells fr0 ++ [.int .i64 0, .bool false]
  | some l => [.bool true] ++ fcells l.f ++ [.int .i64 l.pins, .bool l.used]
def SOk (x : Slot) : Prop := ∀ l, x = some l → l.f.body.length = 96
end Go.Proofs.Ytjbjfpbhacpeiaa
