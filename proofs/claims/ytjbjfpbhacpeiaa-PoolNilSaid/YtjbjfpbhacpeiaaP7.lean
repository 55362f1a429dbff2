/- Contract of the pool's Set. -/
import Derived.Test.YtjbjfpbhacpeiaaPb
import Derived.Test.YtjbjfpbhacpeiaaP5
namespace Go.Proofs.Ytjbjfpbhacpeiaa
open Go.RowKit
set_option linter.unusedSimpArgs false
set_option linter.unusedVariables false
set_option maxRecDepth 100000

section
variable {S : PS} {f : Fr}
theorem setS_bad (h : mayF f = false) : setS S f = (2, S) := by simp [setS, h]
theorem setS_hit (h : mayF f = true) {i : Nat} {l : Live} (hi : posF f.page S.s = some i) (hl : S.s[i]? = some (some l)) : setS S f = (0, S.put i (some { l with used := true, f := f })) := by simp [setS, h, hi, hl]
theorem setS_new (h : mayF f = true) {i : Nat} (hi : posF f.page S.s = none) (hf : freeF S.s = some i) : setS S f = (0, S.put i (some ⟨true, 0, f⟩)) := by simp [setS, h, hi, hf]
theorem setS_full (h : mayF f = true) (hi : posF f.page S.s = none) (hf : freeF S.s = none) : setS S f = (5, S) := by simp [setS, h, hi, hf]
end
theorem setS_ok {K : Int} {S : PS} (hS : S.Ok K) (hK : 0 ≤ K) {f : Fr} (hf : f.Ok) : (setS S f).2.Ok K := by
  cases hm : mayF f with
  | false => rw [setS_bad hm]; exact hS
  | true =>
    cases hi : posF f.page S.s with
    | some i =>
      obtain ⟨l, hl, e⟩ := posF_some hi
      rw [setS_hit hm hi hl]
      obtain ⟨a, b, c, d⟩ := hS.live i l hl
      exact hS.same hl ⟨hf, hm, c, d⟩ e.symm
    | none =>
      cases hq : freeF S.s with
      | none => rw [setS_full hm hi hq]; exact hS
      | some i =>
        rw [setS_new hm hi hq]
        exact hS.put i _ ⟨hf, hm, Int.le_refl _, hK⟩ (fun j l' _ hj => posF_none hi j l' hj)
theorem patch_fr (l : Live) (f : Fr) (hl : l.f.Ok) (hf : f.Ok) : patch (pcells (some l)) 3 (fcells f) = pcells (some { l with f := f }) := by
  unfold patch
  rw [show 3 + (fcells f).length = 105 by rw [fcells_len hf], List.drop_of_length_le (by simp [pcells, fcells_len hl])]
  simp [pcells]
section
variable (w : World) (b m : Nat) {K : Int} {S : PS} (h : PoolAt w b m S) (hS : S.Ok K) (hK : 0 ≤ K) (f : Fr) (hf : f.Ok)
include h hS hf
set_option maxHeartbeats 4000000 in
theorem set_bad (hm : mayF f = false) : Calls Try.prog 19 #[.pointer (some ⟨b, 0, none⟩), .agg (fA f)] w (fun e w' => e = .returned (.int .i64 2) ∧ PoolAt w' b m S ∧ Ex (PB b m) w w') := by
  have hC : FCells (w.alloc (.cells (fA f) 39)) w.heap.size f := ⟨heap_alloc_new w _⟩
  have HX := Lib.hid (heap_alloc_new w (.cells (fA f) 39))
  have hP := h.alloc (.cells (fA f) 39)
  have HE := Lib.hid (Ex.alloc (PB b m) w (.cells (fA f) 39))
  have c0 := (hC.c hf).1
  have HO := Lib.hid hf
  have HP := Lib.hid hP
  have HM := Lib.hid (may_any f hf (w.alloc (.cells (fA f) 39)))
  rw [hm] at HM
  have HA : Hid (∃ v k, k ≠ 1 ∧ Calls Try.prog 42 #[.pointer (some ⟨b, 0, none⟩), .int .i64 f.page] (w.alloc (.cells (fA f) 39)) (fun e w' => e = .returned (.tuple #[.pointer v, .int .i64 k]) ∧ w.alloc (.cells (fA f) 39) = w')) := by
    cases hi : posF f.page S.s with
    | none => exact Lib.hid ⟨none, 6, by omega, at_miss _ b m hP hS f.page hf.page hi⟩
    | some i => exact Lib.hid ⟨_, 0, by omega, at_hit _ b m hP hS f.page hf.page i hi⟩
  obtain ⟨v, k, hk, hat⟩ := HA.out
  have HAt := Lib.hid hat
  have k1 : (k == 1) = false := by simp [hk]
  clear h hS hP hC hf hm HA hat hk
  go_enter Try.func19, Try.ntmps19
  go_wp2_with fail
  refine HAt.out.mono ?_
  rintro e w' ⟨rfl, rfl⟩
  go_wp2_with (refine wpList_load_row rfl 39 (.tmp 3) rfl w.heap.size rfl 39 (fA f) (0, 0) _ HX.out Try.underlying39 rfl (infoFrA HO.out) ?_)
  refine HM.out.mono ?_
  rintro e w1 ⟨rfl, hb⟩
  have HP1 := Lib.hid (HP.out.later hb)
  have HE1 := Lib.hid (HE.out.trans (Ex.below hb))
  go_wp2_with fail
  go_ret
  exact ⟨rfl, HP1.out, HE1.out⟩
set_option maxHeartbeats 4000000 in
theorem set_hit (hm : mayF f = true) (i : Nat) (l : Live) (hi : posF f.page S.s = some i) (hl : S.s[i]? = some (some l)) : Calls Try.prog 19 #[.pointer (some ⟨b, 0, none⟩), .agg (fA f)] w (fun e w' => e = .returned (.int .i64 0) ∧ PoolAt w' b m (S.put i (some { l with used := true, f := f })) ∧ Ex (PB b m) w w') := by
  have hC : FCells (w.alloc (.cells (fA f) 39)) w.heap.size f := ⟨heap_alloc_new w _⟩
  have HX := Lib.hid (heap_alloc_new w (.cells (fA f) 39))
  have hP := h.alloc (.cells (fA f) 39)
  have HE := Lib.hid (Ex.alloc (PB b m) w (.cells (fA f) 39))
  have c0 := (hC.c hf).1
  have HO := Lib.hid hf
  have HP := Lib.hid hP
  have HM := Lib.hid (may_any f hf (w.alloc (.cells (fA f) 39)))
  rw [hm] at HM
  have HAt := Lib.hid (at_hit _ b m hP hS f.page hf.page i hi)
  obtain ⟨a0, a1, a2, a3⟩ := hS.live i l hl
  obtain ⟨l', hl', epg⟩ := posF_some hi
  obtain rfl : l' = l := by rw [hl] at hl'; injection hl' with hl'; injection hl' with hl'; exact hl'.symm
  have ok1 : (S.put i (some { l' with f := f })).Ok K := hS.same hl ⟨hf, hm, a2, a3⟩ epg.symm
  have hl1 : (S.put i (some { l' with f := f })).s[i]? = some (some { l' with f := f }) := by simp [PS.put, (List.getElem?_eq_some_iff.1 hl).1]
  have e2 : (S.put i (some { l' with f := f })).put i (some { l' with used := true, f := f }) = S.put i (some { l' with used := true, f := f }) := by simp [PS.put]
  have ok2 : ((S.put i (some { l' with f := f })).put i (some { l' with used := true, f := f })).Ok K := by rw [e2]; exact hS.same hl ⟨hf, hm, a2, a3⟩ epg.symm
  have hlen := hS.len
  have hlt := (List.getElem?_eq_some_iff.1 hl).1
  have HS1 : Hid (∀ W, PoolAt W b m S → W.there b (i * 105 + 3) (fA f).size ∧ PoolAt (W.setCells b (i * 105 + 3) (fA f).toList) b m (S.put i (some { l' with f := f }))) := Lib.hid (fun W hW =>
    ⟨hW.cells.there _ _ (by rw [plist_len hS, fA, List.size_toArray, fcells_len hf]; omega), hW.sets hS hl (fcells f) (by rw [fcells_len hf]; omega) (patch_fr _ _ a0 hf) ok1 epg.symm⟩)
  have HS2 : Hid (∀ W, PoolAt W b m (S.put i (some { l' with f := f })) → W.cell? ⟨b, i * 105 + 1, none⟩ = some (.bool l'.used) ∧ W.frozen? ⟨b, i * 105 + 1, none⟩ = false ∧ PoolAt (W.setCell ⟨b, i * 105 + 1, none⟩ (.bool true)) b m (S.put i (some { l' with used := true, f := f }))) := Lib.hid (fun W hW =>
    ⟨(hW.live ok1 hl1).2.1, hW.cells.frozen _, by rw [← e2]; exact hW.set ok1 hl1 (j := 1) (v := .bool true) (by omega) rfl ok2 rfl⟩)
  clear h hS hP hC hf hm hi hl ok1 hl1 e2 ok2 a0 a1 a2 a3 hl' epg
  go_enter Try.func19, Try.ntmps19
  go_wp2_with fail
  refine HAt.out.mono ?_
  rintro e w' ⟨rfl, rfl⟩
  go_wp2_with (refine wpList_load_row rfl 39 (.tmp 3) rfl w.heap.size rfl 39 (fA f) (0, 0) _ HX.out Try.underlying39 rfl (infoFrA HO.out) ?_)
  refine HM.out.mono ?_
  rintro e w1 ⟨rfl, hb⟩
  have HP1 := HP.out.later hb
  have HE1 := Lib.hid (HE.out.trans (Ex.below hb))
  have HX1 := Lib.hid ((hb.block _ (Array.getElem?_eq_some_iff.1 HX.out).1).trans HX.out)
  obtain ⟨ht, hP2⟩ := HS1.out _ HP1
  obtain ⟨c1, f1, hP3⟩ := HS2.out _ hP2
  have HT := Lib.hid ht
  have HE2 := Lib.hid ((HE1.out.trans (setCells_ex (T := PB b m) (fA f).toList (i * 105 + 3) w1 (.inl rfl))).trans (setCell_ex (T := PB b m) (i * 105 + 1) (.bool true) _ (.inl rfl)))
  have HP3 := Lib.hid hP3
  have ha := fv_all f
  clear HP1 hP2 hP3 HS1 HS2 hb HP HE HX ht HE1
  go_wp2_with (first | (refine wpList_load_row rfl 39 (.tmp 3) rfl w.heap.size rfl 39 (fA f) (0, 0) _ HX1.out Try.underlying39 rfl (infoFrA HO.out) ?_) | (refine wpList_store_mid rfl 39 (.tmp 30) (.tmp 28) rfl b (i * 105 + 3) (fA f) rfl rfl HT.out (infoFrA HO.out) (fv_all f) ?_))
  go_ret
  exact ⟨rfl, HP3.out, HE2.out⟩
end
end Go.Proofs.Ytjbjfpbhacpeiaa
