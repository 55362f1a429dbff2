/- Contracts of the document's Get, Drop, Pin, Len. -/
import Derived.Test.YtjbjfpbhacpeiaaQ1
import Derived.Test.YtjbjfpbhacpeiaaP8
namespace Go.Proofs.Ytjbjfpbhacpeiaa
open Go.RowKit
set_option linter.unusedSimpArgs false
set_option linter.unusedVariables false
set_option maxRecDepth 100000

def RB (r q : Nat) (k : Nat) : Prop := k = r ∨ k = q
section
variable {w : World} {r q : Nat} {K : Int} {S : PS}
theorem RefAt.set (h : RefAt w r q S) (hS : S.Ok K) {i j : Nat} {x y : Slot} (hi : S.s[i]? = some x) (v : Value) (hj : j < 105) (e : (scells x).set j v = scells y) : RefAt (w.setCell ⟨q, i * 105 + j, none⟩ v) r q (S.put i y) := by
  have hlt := (List.getElem?_eq_some_iff.1 hi).1
  refine ⟨?_, ?_⟩
  · have := h.head.kept (setCell_ex (T := fun k => k = q) (i * 105 + j) v w rfl) h.ne
    simpa [PS.put] using this
  · have hl : i * 105 + j < (S.s.flatMap scells).length := by rw [fl_len S.s (sc_ok hS)]; omega
    have e2 := fl_patch S.s (sc_ok hS) hi [v] (j := j) (by simp; omega) (by rw [patch_one _ _ _ (by rw [sc_ok hS x (List.mem_of_getElem? hi)]; exact hj)]; exact e)
    rw [patch_one _ _ _ hl] at e2
    have := h.row.set (i * 105 + j) v
    rw [e2] at this
    exact this
theorem RefAt.sets (h : RefAt w r q S) (hS : S.Ok K) {i j : Nat} {x y : Slot} (hi : S.s[i]? = some x) (vs : List Value) (hj : j + vs.length ≤ 105) (e : patch (scells x) j vs = scells y) : RefAt (w.setCells q (i * 105 + j) vs) r q (S.put i y) := by
  have hlt := (List.getElem?_eq_some_iff.1 hi).1
  refine ⟨?_, ?_⟩
  · have := h.head.kept (setCells_ex (T := fun k => k = q) vs (i * 105 + j) w rfl) h.ne
    simpa [PS.put] using this
  · have hl : i * 105 + j + vs.length ≤ (S.s.flatMap scells).length := by rw [fl_len S.s (sc_ok hS)]; omega
    have := h.row.sets vs hl
    rw [fl_patch S.s (sc_ok hS) hi vs hj e] at this
    exact this
theorem RefAt.rowSet (h : RefAt w r q S) (g : Nat) (hr : g ≠ r) (hq : g ≠ q) (cs : Array Value) : RefAt (w.setRow g cs) r q S := h.kept (Ex.row' (T := fun k => k = g) w g rfl cs) (Ne.symm hr) (Ne.symm hq)
end
theorem list_set_tail (A : List Value) (a b : Value) (n : Nat) (hn : A.length = n) (v : Value) : (A ++ [a, b]).set (n + 1) v = A ++ [a, v] ∧ (A ++ [a, b]).set n v = A ++ [v, b] := by
  subst hn
  refine ⟨?_, ?_⟩
  · rw [List.set_append_right _ _ (by omega), show A.length + 1 - A.length = 1 by omega]; rfl
  · rw [List.set_append_right _ _ (by omega), show A.length - A.length = 0 by omega]; rfl
theorem sc_used (l : Live) (hl : l.f.Ok) (v : Bool) : (scells (some l)).set 104 (.bool v) = scells (some { l with used := v }) :=
  (list_set_tail ((.bool true : Value) :: fcells l.f) (.int .i64 l.pins) (.bool l.used) 103 (by rw [List.length_cons, fcells_len hl]) (.bool v)).1
theorem sc_pins (l : Live) (hl : l.f.Ok) (k : Int) : (scells (some l)).set 103 (.int .i64 k) = scells (some { l with pins := k }) :=
  (list_set_tail ((.bool true : Value) :: fcells l.f) (.int .i64 l.pins) (.bool l.used) 103 (by rw [List.length_cons, fcells_len hl]) (.int .i64 k)).2
section
variable (w : World) (r q : Nat) {K : Int} {S : PS} (h : RefAt w r q S) (hS : S.Ok K) (p : Int)
include h hS
set_option maxHeartbeats 4000000 in
theorem rget_any : Calls Try.prog 29 #[.pointer (some ⟨r, 0, none⟩), .int .i64 p] w (fun e w' => e = .returned (.tuple #[.agg (fA (getS S p).1.1), .int .i64 (getS S p).1.2]) ∧ RefAt w' r q (getS S p).2 ∧ Ex (RB r q) w w') := by
  have hz := zfr
  have HX := Lib.hid (heap_alloc_new w (.cells (fA fr0) 39))
  have hP := h.alloc (.cells (fA fr0) 39)
  have HE := Lib.hid (Ex.alloc (RB r q) w (.cells (fA fr0) 39))
  have hnr : w.heap.size ≠ r := fun e => by have := h.head.lt; omega
  have hnq : w.heap.size ≠ q := fun e => by have := h.row.lt; omega
  have H := Lib.hid (find_any _ r q hP hS p)
  cases hi : posF p S.s with
  | none =>
    rw [findV_miss hi] at H
    rw [getS_miss hi]
    have HP := Lib.hid hP
    clear h hS hi hP
    go_enter Try.func29, Try.ntmps29
    go_wp2_with fail
    refine H.out.mono ?_
    rintro e w' ⟨rfl, rfl⟩
    go_wp2_with (refine wpList_store_row rfl 39 (.tmp 4) (.tmp 15) rfl w.heap.size (fA fr0) rfl rfl 39 _ HX.out (infoFrA fr0_ok) rfl (fv_all _) ?_; rw [World.setRow_alloc_new])
    exact fr_end rfl rfl rfl rfl fr0_ok HX.out ⟨rfl, HP.out, HE.out⟩
  | some i =>
    obtain ⟨l, hl, _⟩ := posF_some hi
    rw [findV_hit hi] at H
    have c0 := hP.c0
    have hlt := (List.getElem?_eq_some_iff.1 hl).1
    have hlI : (i : Int) < (S.s.length : Int) := by omega
    have ho := (hS.live i l hl).1
    have c1 := (hP.live hS hl).2.2.2
    have f1 := hP.row.frozen (i * 105 + 104)
    have hS' : (S.put i (some { l with used := true })).Ok K := hS.same hl (hS.live i l hl) rfl
    have hP2 := hP.set hS hl (.bool true) (j := 104) (by omega) (sc_used l ho true)
    have hl2 : (S.put i (some { l with used := true })).s[i]? = some (some { l with used := true }) := by simp [PS.put, hlt]
    have HR := Lib.hid (hP2.fr hS' hl2)
    have HO := Lib.hid ho
    have c02 := hP2.c0
    have HX2 : Hid (((w.alloc (.cells (fA fr0) 39)).setCell ⟨q, i * 105 + 104, none⟩ (.bool true)).heap[w.heap.size]? = some (.cells (fA fr0) 39 (0, 0))) := Lib.hid ((Below.heap_setCell _ ⟨q, i * 105 + 104, none⟩ _ _ hnq).trans HX.out)
    have HE2 := Lib.hid (HE.out.trans (setCell_ex (T := RB r q) (i * 105 + 104) (.bool true) _ (.inr rfl)))
    have HP2 := Lib.hid hP2
    have hln : (S.put i (some { l with used := true })).s.length = S.s.length := by simp [PS.put]
    rw [hln] at c02
    rw [getS_hit hi hl]
    clear h hS hi hP hl hP2 HE HX hS' hl2 hln ho
    go_enter Try.func29, Try.ntmps29
    go_wp2_with fail
    refine H.out.mono ?_
    rintro e w' ⟨rfl, rfl⟩
    go_wp2_with (first | (refine wpList_load_mid rfl 39 (.tmp 29) rfl q (i * 105 + 1) rfl (fcells l.f) _ HR.out Try.underlying39 rfl (infoFrL HO.out) ?_) | (refine wpList_store_row rfl 39 (.tmp 4) (.tmp 30) rfl w.heap.size (fA l.f) rfl rfl 39 _ HX2.out (infoFrA HO.out) (fA_size fr0_ok HO.out) (fv_all _) ?_))
    exact fr_end rfl rfl rfl rfl HO.out (setRow_at HX2.out) ⟨rfl, HP2.out.rowSet _ hnr hnq _, HE2.out.row _ (Nat.le_refl _) _⟩
set_option maxHeartbeats 4000000 in
theorem rpin_any (k : Int) (hk : k = 1 ∨ k = -1) (hK : 0 ≤ K ∧ K ≤ 1000000) : Calls Try.prog 31 #[.pointer (some ⟨r, 0, none⟩), .int .i64 p, .int .i64 k] w (fun e w' => e = .returned (.int .i64 (pinS S p k).1) ∧ RefAt w' r q (pinS S p k).2 ∧ Ex (RB r q) w w') := by
  have H := Lib.hid (find_any _ r q h hS p)
  cases hi : posF p S.s with
  | none =>
    rw [findV_miss hi] at H
    rw [pinS_miss hi]
    have HP := Lib.hid h
    clear h hS hi
    go_enter Try.func31, Try.ntmps31
    go_wp2_with fail
    refine H.out.mono ?_
    rintro e w' ⟨rfl, rfl⟩
    go_wp2_with fail
    go_ret
    exact ⟨rfl, HP.out, Ex.refl _ _⟩
  | some i =>
    obtain ⟨l, hl, _⟩ := posF_some hi
    rw [findV_hit hi] at H
    have c0 := h.c0
    have hlt := (List.getElem?_eq_some_iff.1 hl).1
    have hlI : (i : Int) < (S.s.length : Int) := by omega
    have c2 := (h.live hS hl).2.2.1
    have f2 := h.row.frozen (i * 105 + 103)
    obtain ⟨a0, a1, a2, a3⟩ := hS.live i l hl
    have hw : IntKind.i64.wrap (l.pins + k) = l.pins + k := IntWalk.i64_in _ (by omega)
    rw [pinS_hit hi hl]
    by_cases h0 : l.pins + k < 0
    · rw [if_pos h0]
      have HP := Lib.hid h
      clear h hS hi hl a0 a1
      go_enter Try.func31, Try.ntmps31
      go_wp2_with fail
      refine H.out.mono ?_
      rintro e w' ⟨rfl, rfl⟩
      go_wp2_with fail
      go_ret
      exact ⟨rfl, HP.out, Ex.refl _ _⟩
    · rw [if_neg h0]
      have HP := Lib.hid (h.set hS hl (.int .i64 (l.pins + k)) (j := 103) (by omega) (sc_pins l a0 _))
      have hnqr := h.ne
      clear hS hi hl a0 a1
      go_enter Try.func31, Try.ntmps31
      go_wp2_with fail
      refine H.out.mono ?_
      rintro e w' ⟨rfl, rfl⟩
      go_wp2_with fail
      have U : Up (fun k => k = q) w.drew (fun u => u.cell? ⟨r, 0, none⟩ = some (.slice (some ⟨q, 0, none⟩) S.s.length S.s.length)) := Up.cell (w := w.drew) c0 hnqr
      refine wp_region_seq (fun k => k = q) [] [(0, true), (1, true), (2, true), (3, true), (4, true), (5, true), (6, true), (7, true), (8, true), (9, true), (10, true), (11, true), (13, true), (12, false), (14, true), (15, true), (16, true), (17, false)] (by kernel_rfl) (by kernel_rfl) (fun _ _ d _ _ h => by cases d <;> exact h) rfl (by kernel_rfl) ?_
      refine seq_at (some 28) (v := ?_) rfl (by kernel_rfl) (by kernel_rfl) ?_ ?_
      rotate_left
      · intro w' hw'
        obtain q0 := U w' hw'
        go_simp
        try with_reducible rfl
      simp only [Act.put, List.setIfInBounds_toArray, List.set_cons_zero, List.set_cons_succ]
      refine seq_at (some 29) (v := ?_) rfl (by kernel_rfl) (by kernel_rfl) ?_ ?_
      rotate_left
      · intro w' hw'
        obtain q0 := U w' hw'
        go_simp
        try with_reducible rfl
      simp only [Act.put, List.setIfInBounds_toArray, List.set_cons_zero, List.set_cons_succ]
      refine seq_at (some 30) (v := ?_) rfl (by kernel_rfl) (by kernel_rfl) ?_ ?_
      rotate_left
      · intro w' hw'
        obtain q0 := U w' hw'
        go_simp
        try with_reducible rfl
      simp only [Act.put, List.setIfInBounds_toArray, List.set_cons_zero, List.set_cons_succ]
      refine seq_at (some 31) (v := ?_) rfl (by kernel_rfl) (by kernel_rfl) ?_ ?_
      rotate_left
      · intro w' hw'
        obtain q0 := U w' hw'
        go_simp
        try with_reducible rfl
      simp only [Act.put, List.setIfInBounds_toArray, List.set_cons_zero, List.set_cons_succ]
      refine seq_at (some 32) (v := ?_) rfl (by kernel_rfl) (by kernel_rfl) ?_ ?_
      rotate_left
      · intro w' hw'
        obtain q0 := U w' hw'
        go_simp
        try with_reducible rfl
      simp only [Act.put, List.setIfInBounds_toArray, List.set_cons_zero, List.set_cons_succ]
      refine seq_at (some 33) (v := ?_) rfl (by kernel_rfl) (by kernel_rfl) ?_ ?_
      rotate_left
      · intro w' hw'
        obtain q0 := U w' hw'
        go_simp
        try with_reducible rfl
      simp only [Act.put, List.setIfInBounds_toArray, List.set_cons_zero, List.set_cons_succ]
      refine seq_at (some 34) (v := ?_) rfl (by kernel_rfl) (by kernel_rfl) ?_ ?_
      rotate_left
      · intro w' hw'
        obtain q0 := U w' hw'
        go_simp
        try with_reducible rfl
      simp only [Act.put, List.setIfInBounds_toArray, List.set_cons_zero, List.set_cons_succ]
      refine seq_at (some 35) (v := ?_) rfl (by kernel_rfl) (by kernel_rfl) ?_ ?_
      rotate_left
      · intro w' hw'
        obtain q0 := U w' hw'
        go_simp
        try with_reducible rfl
      simp only [Act.put, List.setIfInBounds_toArray, List.set_cons_zero, List.set_cons_succ]
      refine seq_at (some 36) (v := ?_) rfl (by kernel_rfl) (by kernel_rfl) ?_ ?_
      rotate_left
      · intro w' hw'
        obtain q0 := U w' hw'
        go_simp
        try with_reducible rfl
      simp only [Act.put, List.setIfInBounds_toArray, List.set_cons_zero, List.set_cons_succ]
      refine seq_at (some 37) (v := ?_) rfl (by kernel_rfl) (by kernel_rfl) ?_ ?_
      rotate_left
      · intro w' hw'
        obtain q0 := U w' hw'
        go_simp
        try with_reducible rfl
      simp only [Act.put, List.setIfInBounds_toArray, List.set_cons_zero, List.set_cons_succ]
      refine seq_at (some 38) (v := ?_) rfl (by kernel_rfl) (by kernel_rfl) ?_ ?_
      rotate_left
      · intro w' hw'
        obtain q0 := U w' hw'
        go_simp
        try with_reducible rfl
      simp only [Act.put, List.setIfInBounds_toArray, List.set_cons_zero, List.set_cons_succ]
      refine seq_at (some 39) (v := ?_) rfl (by kernel_rfl) (by kernel_rfl) ?_ ?_
      rotate_left
      · intro w' hw'
        obtain q0 := U w' hw'
        go_simp
        try with_reducible rfl
      simp only [Act.put, List.setIfInBounds_toArray, List.set_cons_zero, List.set_cons_succ]
      refine seq_at (some 41) (v := ?_) rfl (by kernel_rfl) (by kernel_rfl) ?_ ?_
      rotate_left
      · intro w' hw'
        obtain q0 := U w' hw'
        go_simp
        try with_reducible rfl
      simp only [Act.put, List.setIfInBounds_toArray, List.set_cons_zero, List.set_cons_succ]
      have c2' : w.drew.cell? ⟨q, i * 105 + 103, none⟩ = some (.int .i64 l.pins) := c2
      have f2' : w.drew.frozen? ⟨q, i * 105 + 103, none⟩ = false := f2
      refine seq_eff rfl (by kernel_rfl) (fun K hK => ?_)
      go_simp
      refine hK.out _ _ (.inl (Ex.refl _ _)) ?_
      refine seq_at (some 42) (v := ?_) rfl (by kernel_rfl) (by kernel_rfl) ?_ ?_
      rotate_left
      · intro w' hw'
        obtain q0 := U w' hw'
        go_simp
        try with_reducible rfl
      simp only [Act.put, List.setIfInBounds_toArray, List.set_cons_zero, List.set_cons_succ]
      refine seq_at (some 43) (v := ?_) rfl (by kernel_rfl) (by kernel_rfl) ?_ ?_
      rotate_left
      · intro w' hw'
        obtain q0 := U w' hw'
        go_simp
        try with_reducible rfl
      simp only [Act.put, List.setIfInBounds_toArray, List.set_cons_zero, List.set_cons_succ]
      refine seq_at (some 44) (v := ?_) rfl (by kernel_rfl) (by kernel_rfl) ?_ ?_
      rotate_left
      · intro w' hw'
        obtain q0 := U w' hw'
        go_simp
        try with_reducible rfl
      simp only [Act.put, List.setIfInBounds_toArray, List.set_cons_zero, List.set_cons_succ]
      refine seq_eff rfl (by kernel_rfl) (fun K hK => ?_)
      go_simp
      refine hK.out _ _ (.inl (setCell_ex (T := fun k => k = q) _ _ _ rfl)) ?_
      refine seq_nil ?_
      go_wp2_with fail
      go_ret
      exact ⟨rfl, ⟨HP.out.head, HP.out.row⟩, (Ex.drew (RB r q) w).trans (setCell_ex (T := RB r q) _ _ _ (.inr rfl))⟩
end
theorem rlen_nil (w : World) : Calls Try.prog 35 #[.pointer none] w (fun e w' => e = .returned (.int .i64 0) ∧ w = w') := by
  go_enter Try.func35, Try.ntmps35
  go_wp2_with fail
  refine wp_loop_rounds 1 ?_
  rw [rounds_succ]
  go_wp2_with fail
  go_ret
  exact ⟨rfl, rfl⟩
theorem cnt_take (s : List Slot) (j : Nat) (x : Slot) (h : s[j]? = some x) : cntS (s.take (j + 1)) = cntS (s.take j) + (if x.isSome then 1 else 0) := by
  obtain ⟨h1, h2⟩ := List.getElem?_eq_some_iff.1 h
  have e : s.take (j + 1) = s.take j ++ [x] := by rw [← h2, List.take_append_getElem h1]
  unfold cntS
  rw [e, List.filter_append, List.length_append]
  congr 1
  cases x <;> simp
section
variable (w : World) (r q : Nat) {K : Int} {S : PS} (h : RefAt w r q S) (hS : S.Ok K)
include h hS
set_option maxHeartbeats 4000000 in
theorem rlen_any : Calls Try.prog 35 #[.pointer (some ⟨r, 0, none⟩)] w (fun e w' => e = .returned (.int .i64 (cntS S.s : Int)) ∧ w = w') := by
  have c0 := h.c0
  have h16 := hS.len
  have HR := Lib.hid h
  have HS := Lib.hid hS
  clear h hS
  go_enter Try.func35, Try.ntmps35
  go_wp2_with fail
  go_loopg [3, 4] S.s.length (fun kk n i wr => ∃ j k : Nat, i = .int .i64 (j : Int) ∧ n = .int .i64 (k : Int) ∧ Hid (j + kk = S.s.length ∧ k = cntS (S.s.take j) ∧ k ≤ 16) ∧ w = wr)
  case atStart => exact ⟨0, 0, rfl, rfl, Lib.hid ⟨Nat.zero_add _, rfl, by omega⟩, rfl⟩
  case round =>
    obtain ⟨j, k, rfl, rfl, hj, rfl⟩ := hrel
    by_cases hlt : j < S.s.length
    · have hgq := List.getElem?_eq_getElem hlt
      have hct := cnt_take S.s j _ hgq
      have hcl := cnt_le (S.s.take (j + 1))
      rw [List.length_take] at hcl
      cases hsj : S.s[j] with
      | none =>
        rw [hsj] at hgq hct
        have cl := HR.out.free HS.out hgq
        have HQ := Lib.hid hct
        clear hct hgq hsj hcl
        go_wp2_with fail
        go_roundg (gk - 1)
        case measure => have := hj.out; omega
        case rel => exact ⟨j + 1, k, (by go_num), rfl, Lib.hid ⟨(by have := hj.out; omega), by rw [HQ.out]; exact hj.out.2.1, hj.out.2.2⟩, rfl⟩
      | some l =>
        rw [hsj] at hgq hct
        have cl := (HR.out.live HS.out hgq).1
        have hk16 : k + 1 ≤ 16 := by have := hj.out; simp at hct; omega
        have HQ := Lib.hid hct
        clear hct hgq hsj hcl
        go_wp2_with fail
        go_roundg (gk - 1)
        case measure => have := hj.out; omega
        case rel => exact ⟨j + 1, k + 1, (by go_num), (by go_num), Lib.hid ⟨(by have := hj.out; omega), by rw [HQ.out, ← hj.out.2.1]; rfl, hk16⟩, rfl⟩
    · have HQ : Hid (k = cntS S.s) := Lib.hid (by rw [hj.out.2.1, List.take_of_length_le (by omega)])
      go_wp2_with fail
      go_ret
      exact ⟨by rw [← HQ.out]; rfl, rfl⟩
set_option maxHeartbeats 4000000 in
theorem rroom_any : Calls Try.prog 36 #[.pointer (some ⟨r, 0, none⟩)] w (fun e w' => e = .returned (.int .i64 ((S.s.length : Int) - (cntS S.s : Int))) ∧ ∃ n, w' = w.drewN n) := by
  have c0 := h.c0
  have h1 := cnt_le S.s
  have h2 := hS.len
  have hw : IntKind.i64.wrap ((S.s.length : Int) - (cntS S.s : Int)) = (S.s.length : Int) - (cntS S.s : Int) := IntWalk.i64_in _ (by omega)
  have H : Hid (∀ n, Calls Try.prog 35 #[.pointer (some ⟨r, 0, none⟩)] (w.drewN n) (fun e w' => e = .returned (.int .i64 (cntS S.s : Int)) ∧ w.drewN n = w')) := Lib.hid (fun n => rlen_any (w.drewN n) r q (h.kept (T := fun _ => False) (Ex.drewN _ w n) id id) hS)
  clear h hS
  go_enter Try.func36, Try.ntmps36
  go_wp2_with fail
  refine wp_region_seq (fun _ => False) [] [(0, true), (1, true), (2, true), (3, true), (4, true), (5, true), (6, false), (7, true), (8, true)] (by kernel_rfl) (by kernel_rfl) (fun _ _ d _ _ h => by cases d <;> exact h) rfl (by kernel_rfl) ?_
  have U : Up (fun _ => False) w.drew (fun u => u.cell? ⟨r, 0, none⟩ = some (.slice (some ⟨q, 0, none⟩) S.s.length S.s.length)) := Up.cell (w := w.drew) c0 id
  refine seq_at (some 5) (v := ?_) rfl (by kernel_rfl) (by kernel_rfl) ?_ ?_
  rotate_left
  · intro w' hw'
    obtain q0 := U w' hw'
    go_simp
    try with_reducible rfl
  simp only [Act.put, List.setIfInBounds_toArray, List.set_cons_zero, List.set_cons_succ]
  refine seq_at (some 6) (v := ?_) rfl (by kernel_rfl) (by kernel_rfl) ?_ ?_
  rotate_left
  · intro w' hw'
    obtain q0 := U w' hw'
    go_simp
    try with_reducible rfl
  simp only [Act.put, List.setIfInBounds_toArray, List.set_cons_zero, List.set_cons_succ]
  refine seq_at (some 7) (v := ?_) rfl (by kernel_rfl) (by kernel_rfl) ?_ ?_
  rotate_left
  · intro w' hw'
    obtain q0 := U w' hw'
    go_simp
    try with_reducible rfl
  simp only [Act.put, List.setIfInBounds_toArray, List.set_cons_zero, List.set_cons_succ]
  refine seq_at (some 8) (v := ?_) rfl (by kernel_rfl) (by kernel_rfl) ?_ ?_
  rotate_left
  · intro w' hw'
    obtain q0 := U w' hw'
    go_simp
    try with_reducible rfl
  simp only [Act.put, List.setIfInBounds_toArray, List.set_cons_zero, List.set_cons_succ]
  refine seq_at (some 9) (v := ?_) rfl (by kernel_rfl) (by kernel_rfl) ?_ ?_
  rotate_left
  · intro w' hw'
    obtain q0 := U w' hw'
    go_simp
    try with_reducible rfl
  simp only [Act.put, List.setIfInBounds_toArray, List.set_cons_zero, List.set_cons_succ]
  refine seq_at (some 10) (v := ?_) rfl (by kernel_rfl) (by kernel_rfl) ?_ ?_
  rotate_left
  · intro w' hw'
    obtain q0 := U w' hw'
    go_simp
    try with_reducible rfl
  simp only [Act.put, List.setIfInBounds_toArray, List.set_cons_zero, List.set_cons_succ]
  refine seq_eff rfl (by kernel_rfl) (fun K hK => ?_)
  go_simp
  refine (H.out 1).mono ?_
  rintro e w' ⟨rfl, rfl⟩
  refine hK.out _ _ (.inl (Ex.refl _ _)) ?_
  refine seq_at (some 12) (v := ?_) rfl (by kernel_rfl) (by kernel_rfl) ?_ ?_
  rotate_left
  · intro w' hw'
    obtain q0 := U w' hw'
    go_simp
    try with_reducible rfl
  simp only [Act.put, List.setIfInBounds_toArray, List.set_cons_zero, List.set_cons_succ]
  refine seq_at (some 2) (v := ?_) rfl (by kernel_rfl) (by kernel_rfl) ?_ ?_
  rotate_left
  · intro w' hw'
    obtain q0 := U w' hw'
    go_simp
    try with_reducible rfl
  simp only [Act.put, List.setIfInBounds_toArray, List.set_cons_zero, List.set_cons_succ]
  refine seq_nil ?_
  go_wp2_with fail
  go_ret
  exact ⟨rfl, 1, rfl⟩
end
end Go.Proofs.Ytjbjfpbhacpeiaa
