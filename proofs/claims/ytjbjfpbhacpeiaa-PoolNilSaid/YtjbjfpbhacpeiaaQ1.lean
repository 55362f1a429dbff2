/- A pool of the document's in memory; contracts of its find, Look, Pins. -/
import Derived.Test.YtjbjfpbhacpeiaaP2
namespace Go.Proofs.Ytjbjfpbhacpeiaa
open Go.RowKit
set_option linter.unusedSimpArgs false
set_option linter.unusedVariables false
set_option maxRecDepth 100000

/-- a pool of the document's -/
structure RefAt (w : World) (r q : Nat) (S : PS) : Prop where
  head : PCells w r [.slice (some ⟨q, 0, none⟩) S.s.length S.s.length, .int .i64 (S.hand : Int)] 73
  row : PCells w q (S.s.flatMap scells) 84
section
variable {w : World} {r q : Nat} {K : Int} {S : PS}
theorem sc_ok (hS : S.Ok K) : ∀ x ∈ S.s, (scells x).length = 105 := fun x hx => scells_len (slot_ok hS x hx)
theorem RefAt.c0 (h : RefAt w r q S) : w.cell? ⟨r, 0, none⟩ = some (.slice (some ⟨q, 0, none⟩) S.s.length S.s.length) := by rw [h.head.cell]; rfl
theorem RefAt.c1 (h : RefAt w r q S) : w.cell? ⟨r, 1, none⟩ = some (.int .i64 (S.hand : Int)) := by rw [h.head.cell]; rfl
theorem RefAt.slot (h : RefAt w r q S) (hS : S.Ok K) (i j : Nat) (hj : j < 105) : w.cell? ⟨q, i * 105 + j, none⟩ = S.s[i]?.bind fun x => (scells x)[j]? := by
  rw [h.row.cell]; exact fl_get S.s (sc_ok hS) i j hj
theorem sc_tail (l : Live) (hl : l.f.Ok) : (scells (some l))[103]? = some (.int .i64 l.pins) ∧ (scells (some l))[104]? = some (.bool l.used) := by
  have h0 : ((.bool true : Value) :: fcells l.f).length = 103 := by rw [List.length_cons, fcells_len hl]
  refine ⟨?_, ?_⟩
  all_goals
    show (((.bool true : Value) :: fcells l.f) ++ [.int .i64 l.pins, .bool l.used])[_]? = _
    rw [List.getElem?_append_right (by omega), h0]
    rfl
theorem RefAt.live (h : RefAt w r q S) (hS : S.Ok K) {i : Nat} {l : Live} (hi : S.s[i]? = some (some l)) :
    w.cell? ⟨q, i * 105, none⟩ = some (.bool true) ∧ w.cell? ⟨q, i * 105 + 1, none⟩ = some (.int .i64 l.f.page) ∧ w.cell? ⟨q, i * 105 + 103, none⟩ = some (.int .i64 l.pins) ∧ w.cell? ⟨q, i * 105 + 104, none⟩ = some (.bool l.used) := by
  have h0 := h.slot hS i 0 (by omega)
  have h1 := h.slot hS i 1 (by omega)
  have h2 := h.slot hS i 103 (by omega)
  have h3 := h.slot hS i 104 (by omega)
  rw [hi] at h0 h1 h2 h3
  obtain ⟨t1, t2⟩ := sc_tail l (hS.live i l hi).1
  exact ⟨h0, h1, h2.trans t1, h3.trans t2⟩
theorem RefAt.free (h : RefAt w r q S) (hS : S.Ok K) {i : Nat} (hi : S.s[i]? = some none) : w.cell? ⟨q, i * 105, none⟩ = some (.bool false) := by
  have h0 := h.slot hS i 0 (by omega)
  rw [hi] at h0
  exact h0
theorem scells_frame (l : Live) (hl : l.f.Ok) (j : Nat) (v : Value) (h : (fcells l.f)[j]? = some v) : (scells (some l))[1 + j]? = some v := by
  have hj : j < 102 := by have := (List.getElem?_eq_some_iff.1 h).1; rw [fcells_len hl] at this; exact this
  show (((.bool true : Value) :: fcells l.f) ++ [.int .i64 l.pins, .bool l.used])[1 + j]? = _
  rw [List.getElem?_append_left (by rw [List.length_cons, fcells_len hl]; omega), Nat.add_comm, List.getElem?_cons_succ]
  exact h
theorem RefAt.fr (h : RefAt w r q S) (hS : S.Ok K) {i : Nat} {l : Live} (hi : S.s[i]? = some (some l)) : w.rangeAt q (i * 105 + 1) (fcells l.f) := by
  have hok := (hS.live i l hi).1
  refine h.row.range _ _ fun j v hj => ?_
  have hj2 : j < 102 := by have := (List.getElem?_eq_some_iff.1 hj).1; rw [fcells_len hok] at this; exact this
  rw [Nat.add_assoc, fl_get S.s (sc_ok hS) i (1 + j) (by omega), hi]
  exact scells_frame l hok j v hj
theorem RefAt.kept {w' : World} {T : Nat → Prop} (h : RefAt w r q S) (hx : Ex T w w') (hr : ¬ T r) (hq : ¬ T q) : RefAt w' r q S := ⟨h.head.kept hx hr, h.row.kept hx hq⟩
theorem RefAt.later {w' : World} (h : RefAt w r q S) (hb : Below w.heap.size w w') : RefAt w' r q S := h.kept (T := fun _ => False) (Ex.below hb) id id
theorem RefAt.alloc (h : RefAt w r q S) (o : Obj) : RefAt (w.alloc o) r q S := h.later ((Below.refl _ w).alloc (Nat.le_refl _) o)
theorem RefAt.ne (h : RefAt w r q S) : r ≠ q := fun e => by
  have h1 := h.head
  have h2 := h.row
  unfold PCells at h1 h2
  rw [e, h2] at h1
  injection h1 with h1
  injection h1 with _ h1
  exact absurd h1 (by decide)
end
/-- where find finds -/
def findV (S : PS) (p : Int) : Int := match posF p S.s with
  | some i => (i : Int)
  | none => -1
theorem find_nil (w : World) (p : Int) : Calls Try.prog 46 #[.pointer none, .int .i64 p] w (fun e w' => e = .returned (.int .i64 (-1)) ∧ w = w') := by
  go_enter Try.func46, Try.ntmps46
  go_wp2_with fail
  refine wp_loop_rounds 1 ?_
  rw [rounds_succ]
  go_wp2_with fail
  go_ret
  exact ⟨rfl, rfl⟩
set_option maxHeartbeats 4000000 in
theorem find_any (w : World) (r q : Nat) {K : Int} {S : PS} (h : RefAt w r q S) (hS : S.Ok K) (p : Int) :
    Calls Try.prog 46 #[.pointer (some ⟨r, 0, none⟩), .int .i64 p] w (fun e w' => e = .returned (.int .i64 (findV S p)) ∧ w = w') := by
  have c0 := h.c0
  have h16 := hS.len
  have HR := Lib.hid h
  have HS := Lib.hid hS
  clear h hS
  go_enter Try.func46, Try.ntmps46
  go_wp2_with fail
  go_loopg [5] S.s.length (fun kk i wr => ∃ j : Nat, i = .int .i64 (j : Int) ∧ Hid (j + kk = S.s.length ∧ firstF (Slot.has p) (S.s.drop j) j = posF p S.s) ∧ w = wr)
  case atStart => exact ⟨0, rfl, Lib.hid ⟨Nat.zero_add _, rfl⟩, rfl⟩
  case round =>
    obtain ⟨j, rfl, hj, rfl⟩ := hrel
    by_cases hlt : j < S.s.length
    · have hq := firstF_drop (Slot.has p) S.s j hlt
      have hgq := List.getElem?_eq_getElem hlt
      cases hsj : S.s[j] with
      | none =>
        rw [hsj] at hq hgq
        rw [if_neg (by simp [Slot.has])] at hq
        have cl := HR.out.free HS.out hgq
        have HQ := Lib.hid (hq.symm.trans hj.out.2)
        clear hq hgq hsj
        go_wp2_with fail
        go_roundg (gk - 1)
        case measure => have := hj.out; omega
        case rel => exact ⟨j + 1, (by go_num), Lib.hid ⟨(by have := hj.out; omega), HQ.out⟩, rfl⟩
      | some l =>
        rw [hsj] at hq hgq
        obtain ⟨cl, cp, _, _⟩ := HR.out.live HS.out hgq
        by_cases hp : l.f.page = p
        · rw [if_pos (by simp [Slot.has, hp])] at hq
          have HQ : Hid (findV S p = (j : Int)) := Lib.hid (by unfold findV; rw [← hj.out.2, hq])
          have hpb : (l.f.page == p) = true := by simp [hp]
          clear hq hgq hsj hp
          go_wp2_with fail
          go_ret
          exact ⟨by rw [HQ.out]; rfl, rfl⟩
        · rw [if_neg (by simp [Slot.has, hp])] at hq
          have HQ := Lib.hid (hq.symm.trans hj.out.2)
          have hpb : (l.f.page == p) = false := by simp [hp]
          clear hq hgq hsj hp
          go_wp2_with fail
          go_roundg (gk - 1)
          case measure => have := hj.out; omega
          case rel => exact ⟨j + 1, (by go_num), Lib.hid ⟨(by have := hj.out; omega), HQ.out⟩, rfl⟩
    · have HQ : Hid (findV S p = -1) := Lib.hid (by unfold findV; rw [← hj.out.2, List.drop_eq_nil_of_le (by omega)]; rfl)
      go_wp2_with fail
      go_ret
      exact ⟨by rw [HQ.out]; rfl, rfl⟩
section
variable {S : PS} {p : Int}
theorem findV_hit {i : Nat} (hi : posF p S.s = some i) : findV S p = (i : Int) := by simp [findV, hi]
theorem findV_miss (hi : posF p S.s = none) : findV S p = -1 := by simp [findV, hi]
end
section
variable (w : World) (r q : Nat) {K : Int} {S : PS} (h : RefAt w r q S) (hS : S.Ok K) (p : Int)
include h hS
set_option maxHeartbeats 4000000 in
theorem rlook_any : Calls Try.prog 37 #[.pointer (some ⟨r, 0, none⟩), .int .i64 p] w (fun e w' => e = .returned (.tuple #[.agg (fA (lookV S p).1), .bool (lookV S p).2]) ∧ Below w.heap.size w w') := by
  have hz := zfr
  have HX := Lib.hid (heap_alloc_new w (.cells (fA fr0) 39))
  have hP := h.alloc (.cells (fA fr0) 39)
  have H := Lib.hid (find_any _ r q hP hS p)
  cases hi : posF p S.s with
  | none =>
    rw [findV_miss hi] at H
    rw [lookV, lookS_miss hi]
    clear h hS hi hP
    go_enter Try.func37, Try.ntmps37
    go_wp2_with fail
    refine H.out.mono ?_
    rintro e w' ⟨rfl, rfl⟩
    go_wp2_with (refine wpList_store_row rfl 39 (.tmp 4) (.tmp 12) rfl w.heap.size (fA fr0) rfl rfl 39 _ HX.out (infoFrA fr0_ok) rfl (fv_all _) ?_; rw [World.setRow_alloc_new])
    exact fr_end rfl rfl rfl rfl fr0_ok HX.out ⟨rfl, (Below.refl _ w).alloc (Nat.le_refl _) _⟩
  | some i =>
    obtain ⟨l, hl, _⟩ := posF_some hi
    rw [findV_hit hi] at H
    have c0 := hP.c0
    have hlt := (List.getElem?_eq_some_iff.1 hl).1
    have HR := Lib.hid (hP.fr hS hl)
    have HO := Lib.hid (hS.live i l hl).1
    rw [lookV, lookS_hit hi hl]
    clear h hS hi hP hl
    go_enter Try.func37, Try.ntmps37
    go_wp2_with fail
    refine H.out.mono ?_
    rintro e w' ⟨rfl, rfl⟩
    go_wp2_with (first | (refine wpList_load_mid rfl 39 (.tmp 19) rfl q (i * 105 + 1) rfl (fcells l.f) _ HR.out Try.underlying39 rfl (infoFrL HO.out) ?_) | (refine wpList_store_row rfl 39 (.tmp 4) (.tmp 20) rfl w.heap.size (fA l.f) rfl rfl 39 _ (heap_alloc_new w _) (infoFrA HO.out) (fA_size fr0_ok HO.out) (fv_all _) ?_; rw [World.setRow_alloc_new]))
    exact fr_end rfl rfl rfl rfl HO.out (heap_alloc_new w _) ⟨rfl, (Below.refl _ w).alloc (Nat.le_refl _) _⟩
theorem rpins_any : Calls Try.prog 38 #[.pointer (some ⟨r, 0, none⟩), .int .i64 p] w (fun e w' => e = .returned (.int .i64 (pinsS S p)) ∧ w = w') := by
  have H := Lib.hid (find_any _ r q h hS p)
  cases hi : posF p S.s with
  | none =>
    rw [findV_miss hi] at H
    rw [pinsS, lookS_miss hi]
    clear h hS hi
    go_enter Try.func38, Try.ntmps38
    go_wp2_with fail
    refine H.out.mono ?_
    rintro e w' ⟨rfl, rfl⟩
    go_wp2_with fail
    go_ret
    exact ⟨rfl, rfl⟩
  | some i =>
    obtain ⟨l, hl, _⟩ := posF_some hi
    rw [findV_hit hi] at H
    have c0 := h.c0
    have hlt := (List.getElem?_eq_some_iff.1 hl).1
    have c2 := (h.live hS hl).2.2.1
    rw [pinsS, lookS_hit hi hl]
    clear h hS hi hl
    go_enter Try.func38, Try.ntmps38
    go_wp2_with fail
    refine H.out.mono ?_
    rintro e w' ⟨rfl, rfl⟩
    go_wp2_with fail
    go_ret
    exact ⟨rfl, rfl⟩
end
end Go.Proofs.Ytjbjfpbhacpeiaa
