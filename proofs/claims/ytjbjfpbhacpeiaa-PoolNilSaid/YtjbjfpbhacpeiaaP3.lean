/- Contracts of the pool's Get, pin, Pin, Unpin, Len, Room. -/
import Derived.Test.YtjbjfpbhacpeiaaP2
namespace Go.Proofs.Ytjbjfpbhacpeiaa
open Go.RowKit
set_option linter.unusedSimpArgs false
set_option linter.unusedVariables false
set_option maxRecDepth 100000

theorem getS_ok {K : Int} {S : PS} (hS : S.Ok K) (p : Int) : (getS S p).2.Ok K := by
  cases hi : posF p S.s with
  | none => rw [getS_miss hi]; exact hS
  | some i =>
    obtain ⟨l, hl, _⟩ := posF_some hi
    rw [getS_hit hi hl]
    exact hS.same hl (hS.live i l hl) rfl
theorem pinS_ok {K : Int} {S : PS} (hS : S.Ok K) (p k : Int) (hk : k ≤ 1) : (pinS S p k).2.Ok (K + 1) := by
  cases hi : posF p S.s with
  | none => rw [pinS_miss hi]; exact hS.mono (by omega)
  | some i =>
    obtain ⟨l, hl, _⟩ := posF_some hi
    rw [pinS_hit hi hl]
    obtain ⟨a, b, c, d⟩ := hS.live i l hl
    by_cases h0 : l.pins + k < 0
    · rw [if_pos h0]; exact hS.mono (by omega)
    · rw [if_neg h0]
      exact (hS.mono (by omega : K ≤ K + 1)).same hl ⟨a, b, by show 0 ≤ l.pins + k; omega, by show l.pins + k ≤ K + 1; omega⟩ rfl
section
variable (w : World) (b m : Nat) {K : Int} {S : PS} (h : PoolAt w b m S) (hS : S.Ok K) (p : Int) (hp : I64 p)
include h hS hp
set_option maxHeartbeats 4000000 in
theorem get_any : Calls Try.prog 18 #[.pointer (some ⟨b, 0, none⟩), .int .i64 p] w (fun e w' => e = .returned (.tuple #[.agg (fA (getS S p).1.1), .int .i64 (getS S p).1.2]) ∧ PoolAt w' b m (getS S p).2 ∧ Ex (PB b m) w w') := by
  have hz := zfr
  have HX := Lib.hid (heap_alloc_new w (.cells (fA fr0) 39))
  have hP := h.alloc (.cells (fA fr0) 39)
  have HE := Lib.hid (Ex.alloc (PB b m) w (.cells (fA fr0) 39))
  have hnb : w.heap.size ≠ b := fun e => by have := h.cells.lt; omega
  have hnm : w.heap.size ≠ m := fun e => by have := h.mlt; omega
  cases hi : posF p S.s with
  | none =>
    have H := Lib.hid (at_miss _ b m hP hS p hp hi)
    rw [getS_miss hi]
    have HP := Lib.hid hP
    clear h hS hi hP
    go_enter Try.func18, Try.ntmps18
    go_wp2_with fail
    refine H.out.mono ?_
    rintro e w' ⟨rfl, rfl⟩
    go_wp2_with (refine wpList_store_row rfl 39 (.tmp 4) (.tmp 16) rfl w.heap.size (fA fr0) rfl rfl 39 _ HX.out (infoFrA fr0_ok) rfl (fv_all _) ?_; rw [World.setRow_alloc_new])
    exact fr_end rfl rfl rfl rfl fr0_ok HX.out ⟨rfl, HP.out, HE.out⟩
  | some i =>
    obtain ⟨l, hl, _⟩ := posF_some hi
    have H := Lib.hid (at_hit _ b m hP hS p hp i hi)
    have c1 := (hP.live hS hl).2.1
    have f1 := hP.cells.frozen (i * 105 + 1)
    have hS' : (S.put i (some { l with used := true })).Ok K := hS.same hl (hS.live i l hl) rfl
    have hP2 := hP.set hS hl (j := 1) (v := .bool true) (l' := { l with used := true }) (by omega) rfl hS' rfl
    have hl2 : (S.put i (some { l with used := true })).s[i]? = some (some { l with used := true }) := by simp [PS.put, (List.getElem?_eq_some_iff.1 hl).1]
    have HR := Lib.hid (hP2.fr hS' hl2)
    have HO := Lib.hid (hS.live i l hl).1
    have HX2 : Hid (((w.alloc (.cells (fA fr0) 39)).setCell ⟨b, i * 105 + 1, none⟩ (.bool true)).heap[w.heap.size]? = some (.cells (fA fr0) 39 (0, 0))) := Lib.hid ((Below.heap_setCell _ ⟨b, i * 105 + 1, none⟩ _ _ hnb).trans HX.out)
    have HE2 := Lib.hid (HE.out.trans (setCell_ex (T := PB b m) (i * 105 + 1) (.bool true) _ (.inl rfl)))
    have HP2 := Lib.hid hP2
    rw [getS_hit hi hl]
    clear h hS hi hP hl hP2 HE HX hS' hl2
    go_enter Try.func18, Try.ntmps18
    go_wp2_with fail
    refine H.out.mono ?_
    rintro e w' ⟨rfl, rfl⟩
    go_wp2_with (first | (refine wpList_load_mid rfl 39 (.tmp 23) rfl b (i * 105 + 3) rfl (fcells l.f) _ HR.out Try.underlying39 rfl (infoFrL HO.out) ?_) | (refine wpList_store_row rfl 39 (.tmp 4) (.tmp 24) rfl w.heap.size (fA l.f) rfl rfl 39 _ HX2.out (infoFrA HO.out) (fA_size fr0_ok HO.out) (fv_all _) ?_))
    exact fr_end rfl rfl rfl rfl HO.out (setRow_at HX2.out) ⟨rfl, HP2.out.row _ hnb hnm _, HE2.out.row _ (Nat.le_refl _) _⟩
theorem pin_any (k : Int) (hk : k = 1 ∨ k = -1) (hK : 0 ≤ K ∧ K ≤ 1000000) : Calls Try.prog 44 #[.pointer (some ⟨b, 0, none⟩), .int .i64 p, .int .i64 k] w (fun e w' => e = .returned (.int .i64 (pinS S p k).1) ∧ PoolAt w' b m (pinS S p k).2 ∧ Ex (PB b m) w w') := by
  cases hi : posF p S.s with
  | none =>
    have H := Lib.hid (at_miss _ b m h hS p hp hi)
    rw [pinS_miss hi]
    have HP := Lib.hid h
    clear h hS hi
    go_enter Try.func44, Try.ntmps44
    go_wp2_with fail
    refine H.out.mono ?_
    rintro e w' ⟨rfl, rfl⟩
    go_wp2_with fail
    go_ret
    exact ⟨rfl, HP.out, Ex.refl _ _⟩
  | some i =>
    obtain ⟨l, hl, _⟩ := posF_some hi
    have H := Lib.hid (at_hit _ b m h hS p hp i hi)
    have c2 := (h.live hS hl).2.2.1
    have f2 := h.cells.frozen (i * 105 + 2)
    obtain ⟨a0, a1, a2, a3⟩ := hS.live i l hl
    have hw : IntKind.i64.wrap (l.pins + k) = l.pins + k := IntWalk.i64_in _ (by omega)
    rw [pinS_hit hi hl]
    have hok := pinS_ok hS p k (by omega)
    rw [pinS_hit hi hl] at hok
    by_cases h0 : l.pins + k < 0
    · rw [if_pos h0]
      have HP := Lib.hid h
      clear h hS hi hl a0 a1 hok
      go_enter Try.func44, Try.ntmps44
      go_wp2_with fail
      refine H.out.mono ?_
      rintro e w' ⟨rfl, rfl⟩
      go_wp2_with fail
      go_ret
      exact ⟨rfl, HP.out, Ex.refl _ _⟩
    · rw [if_neg h0] at hok ⊢
      have HP := Lib.hid (h.set hS hl (j := 2) (v := .int .i64 (l.pins + k)) (l' := { l with pins := l.pins + k }) (by omega) rfl hok rfl)
      have HE := Lib.hid (setCell_ex (T := PB b m) (i * 105 + 2) (.int .i64 (l.pins + k)) w (.inl rfl))
      clear h hS hi hl a0 a1 hok
      go_enter Try.func44, Try.ntmps44
      go_wp2_with fail
      refine H.out.mono ?_
      rintro e w' ⟨rfl, rfl⟩
      go_wp2_with fail
      go_ret
      exact ⟨rfl, HP.out, HE.out⟩
theorem pinUp_any (hK : 0 ≤ K ∧ K ≤ 1000000) : Calls Try.prog 21 #[.pointer (some ⟨b, 0, none⟩), .int .i64 p] w (fun e w' => e = .returned (.int .i64 (pinS S p 1).1) ∧ PoolAt w' b m (pinS S p 1).2 ∧ Ex (PB b m) w w') := by
  have H := Lib.hid (pin_any w b m h hS p hp 1 (.inl rfl) hK)
  clear h hS
  go_enter Try.func21, Try.ntmps21
  go_wp2_with fail
  refine H.out.mono ?_
  rintro e w' ⟨rfl, h1, h2⟩
  go_wp2_with fail
  go_ret
  exact ⟨rfl, h1, h2⟩
theorem pinDown_any (hK : 0 ≤ K ∧ K ≤ 1000000) : Calls Try.prog 26 #[.pointer (some ⟨b, 0, none⟩), .int .i64 p] w (fun e w' => e = .returned (.int .i64 (pinS S p (-1)).1) ∧ PoolAt w' b m (pinS S p (-1)).2 ∧ Ex (PB b m) w w') := by
  have H := Lib.hid (pin_any w b m h hS p hp (-1) (.inr rfl) hK)
  clear h hS
  go_enter Try.func26, Try.ntmps26
  go_wp2_with fail
  refine H.out.mono ?_
  rintro e w' ⟨rfl, h1, h2⟩
  go_wp2_with fail
  go_ret
  exact ⟨rfl, h1, h2⟩
end
section
variable (w : World) (b m : Nat) {K : Int} {S : PS} (h : PoolAt w b m S) (hS : S.Ok K)
include h hS
theorem len_any : Calls Try.prog 24 #[.pointer (some ⟨b, 0, none⟩)] w (fun e w' => e = .returned (.int .i64 (cntS S.s : Int)) ∧ w = w') := by
  have c := h.mp hS
  have H := Lib.hid (there_yes w b m h hS)
  obtain ⟨D, hD, hm⟩ := h.map
  have hr := hD.len Try.underlying68 3
  rw [hm.2] at hr
  clear h hS hD hm
  go_enter Try.func24, Try.ntmps24
  go_wp2_with fail
  refine H.out.mono ?_
  rintro e w' ⟨rfl, rfl⟩
  go_wp2_with fail
  go_ret
  exact ⟨rfl, rfl⟩
theorem room_any : Calls Try.prog 27 #[.pointer (some ⟨b, 0, none⟩)] w (fun e w' => e = .returned (.int .i64 ((S.s.length : Int) - (cntS S.s : Int))) ∧ ∃ n, w' = w.drewN n) := by
  have c := h.mp hS
  have cn := h.n hS
  have H := Lib.hid (there_yes w b m h hS)
  obtain ⟨D, hD, hm⟩ := h.map
  have hr : ∀ n, (Builtin.len_ #[68] 3 #[.map (some m)]).run Try.prog (w.drewN n) = .ok (.int .i64 (cntS S.s : Int)) (w.drewN n) := fun n => by
    have := (owns_kept (T := fun _ => False) hD (Ex.drewN _ w n) id).len Try.underlying68 3
    rwa [hm.2] at this
  have h1 := cnt_le S.s
  have h2 := hS.len
  have hw : IntKind.i64.wrap ((S.s.length : Int) - (cntS S.s : Int)) = (S.s.length : Int) - (cntS S.s : Int) := IntWalk.i64_in _ (by omega)
  clear h hS hD hm
  go_enter Try.func27, Try.ntmps27
  go_wp2_with fail
  refine H.out.mono ?_
  rintro e w' ⟨rfl, rfl⟩
  go_wp2_with fail
  go_quiet (fail)
  go_wp2_with fail
  go_ret
  exact ⟨rfl, _, rfl⟩
end
end Go.Proofs.Ytjbjfpbhacpeiaa
