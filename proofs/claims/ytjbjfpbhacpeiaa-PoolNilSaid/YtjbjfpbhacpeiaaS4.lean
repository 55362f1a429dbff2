/- Contracts of the pool's functions where there is no pool. -/
import Derived.Test.YtjbjfpbhacpeiaaR5
import Derived.Test.YtjbjfpbhacpeiaaP9
namespace Go.Proofs.Ytjbjfpbhacpeiaa
open Go.RowKit
set_option linter.unusedSimpArgs false
set_option linter.unusedVariables false
set_option maxRecDepth 100000

section
variable (w : World) (A : Option Addr) (h : NoPool w A)
include h
theorem get_no (p : Int) : Calls Try.prog 18 #[.pointer A, .int .i64 p] w (fun e w' => e = .returned (.tuple #[.agg (fA fr0), .int .i64 1]) ∧ Below w.heap.size w w') := by
  have hz := zfr
  have HX := Lib.hid (heap_alloc_new w (.cells (fA fr0) 39))
  have H := Lib.hid (at_no _ A (h.later ((Below.refl _ w).alloc (Nat.le_refl _) (.cells (fA fr0) 39))) p)
  clear h
  go_enter Try.func18, Try.ntmps18
  go_wp2_with fail
  refine H.out.mono ?_
  rintro e w' ⟨rfl, rfl⟩
  go_wp2_with (refine wpList_store_row rfl 39 (.tmp 4) (.tmp 16) rfl w.heap.size (fA fr0) rfl rfl 39 _ HX.out (infoFrA fr0_ok) rfl (fv_all _) ?_; rw [World.setRow_alloc_new])
  exact fr_end rfl rfl rfl rfl fr0_ok HX.out ⟨rfl, (Below.refl _ w).alloc (Nat.le_refl _) _⟩
theorem drop_no (p : Int) : Calls Try.prog 22 #[.pointer A, .int .i64 p] w (fun e w' => e = .returned (.tuple #[.agg (fA fr0), .int .i64 1]) ∧ Below w.heap.size w w') := by
  have hz := zfr
  have HX := Lib.hid (heap_alloc_new w (.cells (fA fr0) 39))
  have H := Lib.hid (at_no _ A (h.later ((Below.refl _ w).alloc (Nat.le_refl _) (.cells (fA fr0) 39))) p)
  clear h
  go_enter Try.func22, Try.ntmps22
  go_wp2_with fail
  refine H.out.mono ?_
  rintro e w' ⟨rfl, rfl⟩
  go_wp2_with (refine wpList_store_row rfl 39 (.tmp 4) (.tmp 17) rfl w.heap.size (fA fr0) rfl rfl 39 _ HX.out (infoFrA fr0_ok) rfl (fv_all _) ?_; rw [World.setRow_alloc_new])
  exact fr_end rfl rfl rfl rfl fr0_ok HX.out ⟨rfl, (Below.refl _ w).alloc (Nat.le_refl _) _⟩
theorem set_no (f : Fr) (hf : f.Ok) : Calls Try.prog 19 #[.pointer A, .agg (fA f)] w (fun e w' => e = .returned (.int .i64 1) ∧ Below w.heap.size w w') := by
  have hC : FCells (w.alloc (.cells (fA f) 39)) w.heap.size f := ⟨heap_alloc_new w _⟩
  have c0 := (hC.c hf).1
  have HB := Lib.hid ((Below.refl _ w).alloc (Nat.le_refl _) (.cells (fA f) 39))
  have HAt := Lib.hid (at_no _ A (h.later HB.out) f.page)
  clear h hC hf
  go_enter Try.func19, Try.ntmps19
  go_wp2_with fail
  refine HAt.out.mono ?_
  rintro e w' ⟨rfl, rfl⟩
  go_wp2_with fail
  go_ret
  exact ⟨rfl, HB.out⟩
theorem pin_no (p k : Int) : Calls Try.prog 44 #[.pointer A, .int .i64 p, .int .i64 k] w (fun e w' => e = .returned (.int .i64 1) ∧ w = w') := by
  have H := Lib.hid (at_no w A h p)
  clear h
  go_enter Try.func44, Try.ntmps44
  go_wp2_with fail
  refine H.out.mono ?_
  rintro e w' ⟨rfl, rfl⟩
  go_wp2_with fail
  go_ret
  exact ⟨rfl, rfl⟩
theorem pinUp_no (p : Int) : Calls Try.prog 21 #[.pointer A, .int .i64 p] w (fun e w' => e = .returned (.int .i64 1) ∧ w = w') := by
  have H := Lib.hid (pin_no w A h p 1)
  clear h
  go_enter Try.func21, Try.ntmps21
  go_wp2_with fail
  refine H.out.mono ?_
  rintro e w' ⟨rfl, rfl⟩
  go_wp2_with fail
  go_ret
  exact ⟨rfl, rfl⟩
theorem pinDown_no (p : Int) : Calls Try.prog 26 #[.pointer A, .int .i64 p] w (fun e w' => e = .returned (.int .i64 1) ∧ w = w') := by
  have H := Lib.hid (pin_no w A h p (-1))
  clear h
  go_enter Try.func26, Try.ntmps26
  go_wp2_with fail
  refine H.out.mono ?_
  rintro e w' ⟨rfl, rfl⟩
  go_wp2_with fail
  go_ret
  exact ⟨rfl, rfl⟩
theorem len_no : Calls Try.prog 24 #[.pointer A] w (fun e w' => e = .returned (.int .i64 0) ∧ w = w') := by
  have H := Lib.hid (there_no w A h)
  clear h
  go_enter Try.func24, Try.ntmps24
  go_wp2_with fail
  refine H.out.mono ?_
  rintro e w' ⟨rfl, rfl⟩
  go_wp2_with fail
  go_ret
  exact ⟨rfl, rfl⟩
theorem room_no : Calls Try.prog 27 #[.pointer A] w (fun e w' => e = .returned (.int .i64 0) ∧ w = w') := by
  have H := Lib.hid (there_no w A h)
  clear h
  go_enter Try.func27, Try.ntmps27
  go_wp2_with fail
  refine H.out.mono ?_
  rintro e w' ⟨rfl, rfl⟩
  go_wp2_with fail
  go_ret
  exact ⟨rfl, rfl⟩
theorem clear_no : Calls Try.prog 33 #[.pointer A] w (fun e w' => e = .returned (.int .i64 0) ∧ w = w') := by
  have H := Lib.hid (there_no w A h)
  have HL := Lib.hid (len_no w A h)
  clear h
  go_enter Try.func33, Try.ntmps33
  go_wp2_with fail
  refine HL.out.mono ?_
  rintro e w' ⟨rfl, rfl⟩
  go_wp2_with fail
  refine H.out.mono ?_
  rintro e w' ⟨rfl, rfl⟩
  go_wp2_with fail
  go_ret
  exact ⟨rfl, rfl⟩
theorem copy_no : Calls Try.prog 23 #[.pointer A] w (fun e w' => e = .returned (.pointer none) ∧ w = w') := by
  have H := Lib.hid (there_no w A h)
  clear h
  go_enter Try.func23, Try.ntmps23
  go_wp2_with fail
  refine H.out.mono ?_
  rintro e w' ⟨rfl, rfl⟩
  go_wp2_with fail
  go_ret
  exact ⟨rfl, rfl⟩
end
/-- is it there? -/
def There (w : World) (A : Option Addr) (t : Bool) : Prop := Calls Try.prog 41 #[.pointer A] w (fun e w' => e = .returned (.bool t) ∧ w = w')
theorem same_not (w : World) (A B : Option Addr) (s t : Bool) (hs : There w A s) (ht : There w B t) (hst : (s && t) = false) :
    Calls Try.prog 13 #[.pointer A, .pointer B] w (fun e w' => e = .returned (.bool (s == t)) ∧ w = w') := by
  have HA := Lib.hid hs
  have HB := Lib.hid ht
  clear hs ht
  cases s with
  | true =>
    cases t with
    | true => cases hst
    | false =>
      go_enter Try.func13, Try.ntmps13
      go_wp2_with fail
      refine HA.out.mono ?_
      rintro e w' ⟨rfl, rfl⟩
      go_wp2_with fail
      refine HB.out.mono ?_
      rintro e w' ⟨rfl, rfl⟩
      go_wp2_with fail
      refine HA.out.mono ?_
      rintro e w' ⟨rfl, rfl⟩
      go_wp2_with fail
      refine HB.out.mono ?_
      rintro e w' ⟨rfl, rfl⟩
      go_wp2_with fail
      go_ret
      exact ⟨rfl, rfl⟩
  | false =>
    go_enter Try.func13, Try.ntmps13
    go_wp2_with fail
    refine HA.out.mono ?_
    rintro e w' ⟨rfl, rfl⟩
    go_wp2_with fail
    refine HA.out.mono ?_
    rintro e w' ⟨rfl, rfl⟩
    go_wp2_with fail
    refine HB.out.mono ?_
    rintro e w' ⟨rfl, rfl⟩
    go_wp2_with fail
    go_ret
    exact ⟨by cases t <;> rfl, rfl⟩
end Go.Proofs.Ytjbjfpbhacpeiaa
