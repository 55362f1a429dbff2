/- Contracts of the pool's Look, Pins, Get, pin, Pin, Unpin. -/
import Derived.Test.YtjbjfpbhacpeiaaP1
import Derived.Deep.WholeRow
namespace Go.Proofs.Ytjbjfpbhacpeiaa
open Go.RowKit
set_option linter.unusedSimpArgs false
set_option linter.unusedVariables false
set_option maxRecDepth 100000

/-- a frame that is stored into a new block -/
def lookV (S : PS) (p : Int) : Fr × Bool := match lookS S p with
  | some l => (l.f, true)
  | none => (fr0, false)
section
variable {S : PS} {p : Int}
theorem lookS_hit {i : Nat} {l : Live} (hi : posF p S.s = some i) (hl : S.s[i]? = some (some l)) : lookS S p = some l := by simp [lookS, hi, hl]
theorem lookS_miss (hi : posF p S.s = none) : lookS S p = none := by simp [lookS, hi]
theorem getS_hit {i : Nat} {l : Live} (hi : posF p S.s = some i) (hl : S.s[i]? = some (some l)) : getS S p = ((l.f, 0), S.put i (some { l with used := true })) := by simp [getS, hi, hl]
theorem getS_miss (hi : posF p S.s = none) : getS S p = ((fr0, 6), S) := by simp [getS, hi]
theorem pinS_hit {i : Nat} {l : Live} (hi : posF p S.s = some i) (hl : S.s[i]? = some (some l)) (k : Int) : pinS S p k = if l.pins + k < 0 then (6, S) else (0, S.put i (some { l with pins := l.pins + k })) := by simp [pinS, hi, hl]
theorem pinS_miss (hi : posF p S.s = none) (k : Int) : pinS S p k = (6, S) := by simp [pinS, hi]
end
section
variable (w : World) (b m : Nat) {K : Int} {S : PS} (h : PoolAt w b m S) (hS : S.Ok K) (p : Int) (hp : I64 p)
include h hS hp
set_option maxHeartbeats 4000000 in
theorem look_any : Calls Try.prog 15 #[.pointer (some ⟨b, 0, none⟩), .int .i64 p] w (fun e w' => e = .returned (.tuple #[.agg (fA (lookV S p).1), .bool (lookV S p).2]) ∧ Below w.heap.size w w') := by
  have hz := zfr
  have HX := Lib.hid (heap_alloc_new w (.cells (fA fr0) 39))
  have hP := h.alloc (.cells (fA fr0) 39)
  cases hi : posF p S.s with
  | none =>
    have H := Lib.hid (at_miss _ b m hP hS p hp hi)
    rw [lookV, lookS_miss hi]
    clear h hS hi hP
    go_enter Try.func15, Try.ntmps15
    go_wp2_with fail
    refine H.out.mono ?_
    rintro e w' ⟨rfl, rfl⟩
    go_wp2_with (refine wpList_store_row rfl 39 (.tmp 4) (.tmp 16) rfl w.heap.size (fA fr0) rfl rfl 39 _ HX.out (infoFrA fr0_ok) rfl (fv_all _) ?_; rw [World.setRow_alloc_new])
    exact fr_end rfl rfl rfl rfl fr0_ok HX.out ⟨rfl, (Below.refl _ w).alloc (Nat.le_refl _) _⟩
  | some i =>
    obtain ⟨l, hl, _⟩ := posF_some hi
    have H := Lib.hid (at_hit _ b m hP hS p hp i hi)
    have HR := Lib.hid (hP.fr hS hl)
    have HO := Lib.hid (hS.live i l hl).1
    rw [lookV, lookS_hit hi hl]
    clear h hS hi hP hl
    go_enter Try.func15, Try.ntmps15
    go_wp2_with fail
    refine H.out.mono ?_
    rintro e w' ⟨rfl, rfl⟩
    go_wp2_with (first | (refine wpList_load_mid rfl 39 (.tmp 19) rfl b (i * 105 + 3) rfl (fcells l.f) _ HR.out Try.underlying39 rfl (infoFrL HO.out) ?_) | (refine wpList_store_row rfl 39 (.tmp 4) (.tmp 20) rfl w.heap.size (fA l.f) rfl rfl 39 _ HX.out (infoFrA HO.out) (fA_size fr0_ok HO.out) (fv_all _) ?_; rw [World.setRow_alloc_new]))
    exact fr_end rfl rfl rfl rfl HO.out (heap_alloc_new w _) ⟨rfl, (Below.refl _ w).alloc (Nat.le_refl _) _⟩
theorem pins_any : Calls Try.prog 16 #[.pointer (some ⟨b, 0, none⟩), .int .i64 p] w (fun e w' => e = .returned (.int .i64 (pinsS S p)) ∧ w = w') := by
  cases hi : posF p S.s with
  | none =>
    have H := Lib.hid (at_miss _ b m h hS p hp hi)
    rw [pinsS, lookS_miss hi]
    clear h hS hi
    go_enter Try.func16, Try.ntmps16
    go_wp2_with fail
    refine H.out.mono ?_
    rintro e w' ⟨rfl, rfl⟩
    go_wp2_with fail
    go_ret
    exact ⟨rfl, rfl⟩
  | some i =>
    obtain ⟨l, hl, _⟩ := posF_some hi
    have H := Lib.hid (at_hit _ b m h hS p hp i hi)
    have c2 := (h.live hS hl).2.2.1
    rw [pinsS, lookS_hit hi hl]
    clear h hS hi hl
    go_enter Try.func16, Try.ntmps16
    go_wp2_with fail
    refine H.out.mono ?_
    rintro e w' ⟨rfl, rfl⟩
    go_wp2_with fail
    go_ret
    exact ⟨rfl, rfl⟩
end
end Go.Proofs.Ytjbjfpbhacpeiaa
