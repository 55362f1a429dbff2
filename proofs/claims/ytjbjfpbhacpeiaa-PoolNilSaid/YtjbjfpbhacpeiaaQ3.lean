/- Contracts of the document's Drop and Set. -/
import Derived.Test.YtjbjfpbhacpeiaaQ2
import Derived.Test.YtjbjfpbhacpeiaaSa
namespace Go.Proofs.Ytjbjfpbhacpeiaa
open Go.RowKit
set_option linter.unusedSimpArgs false
set_option linter.unusedVariables false
set_option maxRecDepth 100000

def szA : Array Value := (scells none).toArray
theorem sc_none_len : (scells none).length = 105 := scells_len (fun l e => by cases e)
theorem szA_size : szA.size = 105 := by rw [szA, List.size_toArray, sc_none_len]
theorem infoSl : (Try.prog.info? 84).map (·.size) = some 105 := by kernel_rfl
theorem szA_info : (Try.prog.info? 84).map (·.size) = some szA.size := infoSl.trans (by rw [szA_size])
theorem scells_one (x : Slot) : ∀ u ∈ scells x, u.oneCell' = true := by
  intro u hu
  rw [scells_parts] at hu
  simp only [List.mem_append, List.mem_cons, List.not_mem_nil, or_false] at hu
  rcases hu with (rfl | hu) | rfl | rfl
  all_goals first | rfl | exact fcells_one _ u hu
theorem szA_all : szA.all (·.oneCell') = true := all_oneCell_toArray (scells_one none)
theorem zsl (w : World) : (zeroValue 84).run Try.prog w = .ok (.agg szA) w := by kernel_rfl
section
variable (w : World) (r q : Nat) {K : Int} {S : PS} (h : RefAt w r q S) (hS : S.Ok K)
include h hS
set_option maxHeartbeats 4000000 in
theorem rdrop_any (p : Int) : Calls Try.prog 30 #[.pointer (some ⟨r, 0, none⟩), .int .i64 p] w (fun e w' => e = .returned (.tuple #[.agg (fA (dropS S p).1.1), .int .i64 (dropS S p).1.2]) ∧ RefAt w' r q (dropS S p).2 ∧ Ex (RB r q) w w') := by
  have hz := zfr
  have hzs := zsl
  have HX := Lib.hid (heap_alloc_new w (.cells (fA fr0) 39))
  have hP := h.alloc (.cells (fA fr0) 39)
  have HE := Lib.hid (Ex.alloc (RB r q) w (.cells (fA fr0) 39))
  have hnr : w.heap.size ≠ r := fun e => by have := h.head.lt; omega
  have hnq : w.heap.size ≠ q := fun e => by have := h.row.lt; omega
  have H := Lib.hid (find_any _ r q hP hS p)
  cases hi : posF p S.s with
  | none =>
    rw [findV_miss hi] at H
    rw [dropS_miss hi]
    have HP := Lib.hid hP
    clear h hS hi hP
    go_enter Try.func30, Try.ntmps30
    go_wp2_with fail
    refine H.out.mono ?_
    rintro e w' ⟨rfl, rfl⟩
    go_wp2_with (refine wpList_store_row rfl 39 (.tmp 4) (.tmp 16) rfl w.heap.size (fA fr0) rfl rfl 39 _ HX.out (infoFrA fr0_ok) rfl (fv_all _) ?_; rw [World.setRow_alloc_new])
    exact fr_end rfl rfl rfl rfl fr0_ok HX.out ⟨rfl, HP.out, HE.out⟩
  | some i =>
    obtain ⟨l, hl, _⟩ := posF_some hi
    rw [findV_hit hi] at H
    have hlt := (List.getElem?_eq_some_iff.1 hl).1
    have hlI : (i : Int) < (S.s.length : Int) := by omega
    have HO := Lib.hid (hS.live i l hl).1
    have c0 := hP.c0
    have HR := Lib.hid (hP.fr hS hl)
    have hP1 := hP.alloc (.cells (fA l.f) 39)
    have hs1 : (w.alloc (.cells (fA fr0) 39)).heap.size = w.heap.size + 1 := by simp
    have HX1 := Lib.hid ((Below.heap_alloc (w.alloc (.cells (fA fr0) 39)) (.cells (fA l.f) 39) w.heap.size (by simp)).trans HX.out)
    have HY1 := Lib.hid (heap_alloc_new (w.alloc (.cells (fA fr0) 39)) (.cells (fA l.f) 39))
    rw [hs1] at HY1
    have HE1 := Lib.hid (HE.out.trans (Ex.alloc (RB r q) _ (.cells (fA l.f) 39)))
    have c01 := hP1.c0
    have HT : Hid (((w.alloc (.cells (fA fr0) 39)).alloc (.cells (fA l.f) 39)).there q (i * 105) 105) := Lib.hid (hP1.row.there _ _ (by rw [fl_len S.s (sc_ok hS)]; omega))
    have e2 : patch (scells (some l)) 0 (scells none) = scells none := patch_all _ _ (by rw [sc_none_len, scells_len (fun l0 e0 => by injection e0 with e0; subst e0; exact HO.out.body)])
    have HC := Lib.hid (hP1.sets hS hl (j := 0) (y := none) (scells none) (by rw [sc_none_len]; omega) e2)
    rw [Nat.add_zero] at HC
    have hnr1 : w.heap.size + 1 ≠ r := fun e => by have := h.head.lt; omega
    have hnq1 : w.heap.size + 1 ≠ q := fun e => by have := h.row.lt; omega
    rw [dropS_hit hi hl]
    clear h hS hi hP hl hP1 HE HX e2
    go_enter Try.func30, Try.ntmps30
    go_wp2_with fail
    refine H.out.mono ?_
    rintro e w' ⟨rfl, rfl⟩
    go_upto_region 7 with (first | (refine wpList_load_mid rfl 39 (.tmp 23) rfl q (i * 105 + 1) rfl (fcells l.f) _ HR.out Try.underlying39 rfl (infoFrL HO.out) ?_) | (refine wpList_store_row rfl 39 (.tmp 7) (.tmp 24) rfl (w.heap.size + 1) (fA l.f) rfl rfl 39 _ (by rw [← hs1]; exact heap_alloc_new _ _) (infoFrA HO.out) (fA_size fr0_ok HO.out) (fv_all _) ?_; rw [← hs1, World.setRow_alloc_new, hs1]))
    generalize (w.alloc (.cells (fA fr0) 39)).alloc (.cells (fA l.f) 39) = w1 at *
    go_upto_region 8 with (refine wpList_store_mid rfl 84 (.tmp 31) (.tmp 30) rfl q (i * 105) szA rfl rfl (by rw [szA_size]; exact HT.out) szA_info szA_all ?_)
    have exS := setCells_ex (T := fun k => k = q) szA.toList (i * 105) w1 rfl
    have HX2 := Lib.hid ((exS.block _ (Array.getElem?_eq_some_iff.1 HX1.out).1 hnq).trans HX1.out)
    have HY2 := Lib.hid ((exS.block _ (Array.getElem?_eq_some_iff.1 HY1.out).1 hnq1).trans HY1.out)
    have HE2 := Lib.hid (HE1.out.trans (exS.mono (T' := RB r q) fun k hk => .inr hk))
    have HC2 : Hid (RefAt (w1.setCells q (i * 105) szA.toList) r q (S.put i none)) := HC
    clear HC exS HT HR HX1 HY1 HE1
    generalize w1.setCells q (i * 105) szA.toList = w2 at *
    go_wp2_with (first | (refine wpList_load_row rfl 39 (.tmp 7) rfl (w.heap.size + 1) rfl 39 (fA l.f) (0, 0) _ HY2.out Try.underlying39 rfl (infoFrA HO.out) ?_) | (refine wpList_store_row rfl 39 (.tmp 4) (.tmp 32) rfl w.heap.size (fA l.f) rfl rfl 39 _ HX2.out (infoFrA HO.out) (fA_size fr0_ok HO.out) (fv_all _) ?_))
    exact fr_end rfl rfl rfl rfl HO.out (setRow_at HX2.out) ⟨rfl, HC2.out.rowSet _ hnr hnq _, HE2.out.row _ (Nat.le_refl _) _⟩
end
end Go.Proofs.Ytjbjfpbhacpeiaa
