/- Contract of the document's Same. -/
import Derived.Test.YtjbjfpbhacpeiaaQ3
import Derived.Test.YtjbjfpbhacpeiaaS3
namespace Go.Proofs.Ytjbjfpbhacpeiaa
open Go.RowKit
set_option linter.unusedSimpArgs false
set_option linter.unusedVariables false
set_option maxRecDepth 100000

theorem rsame_nil (w : World) (A B : Option Addr) (h : A = none ∨ B = none) : Calls Try.prog 14 #[.pointer A, .pointer B] w (fun e w' => e = .returned (.bool (A.isNone && B.isNone)) ∧ w = w') := by
  cases A with
  | none =>
    cases B with
    | none =>
      go_enter Try.func14, Try.ntmps14
      go_wp2_with fail
      go_ret
      exact ⟨rfl, rfl⟩
    | some b =>
      go_enter Try.func14, Try.ntmps14
      go_wp2_with fail
      go_ret
      exact ⟨rfl, rfl⟩
  | some a =>
    cases B with
    | none =>
      go_enter Try.func14, Try.ntmps14
      go_wp2_with fail
      go_ret
      exact ⟨rfl, rfl⟩
    | some b => rcases h with h | h <;> cases h
theorem load_slot {w : World} {r q : Nat} {K : Int} {S : PS} (h : RefAt w r q S) (hS : S.Ok K) {i : Nat} {x : Slot} (hi : S.s[i]? = some x) : (Instr.loadAt 84 (.pointer (some ⟨q, i * 105, none⟩))).run Try.prog w = .ok (.agg (scA x)) w := by
  have hx := sc_ok hS x (List.mem_of_getElem? hi)
  refine run_loadAt_mid w q (i * 105) 84 (scells x) _ (h.row.range _ _ fun j v hj => ?_) sl_under rfl (infoSl.trans (by rw [hx]))
  have hj2 : j < 105 := by have := (List.getElem?_eq_some_iff.1 hj).1; omega
  rw [fl_get S.s (sc_ok hS) i j hj2, hi]
  exact hj
theorem psB_slots {S S' : PS} (hh : S.hand = S'.hand) : psB S S' = slotsB S.s S'.s := by
  unfold psB
  rw [hh]
  simp
set_option maxHeartbeats 8000000 in
theorem rsame_any (w : World) (r q r' q' : Nat) {K K' : Int} {S S' : PS} (h : RefAt w r q S) (hS : S.Ok K) (h' : RefAt w r' q' S') (hS' : S'.Ok K') :
    Calls Try.prog 14 #[.pointer (some ⟨r, 0, none⟩), .pointer (some ⟨r', 0, none⟩)] w (fun e w' => e = .returned (.bool (psB S S')) ∧ ∃ n, w' = w.drewN n) := by
  have U : Up (fun _ => False) w.drew (fun u => (u.cell? ⟨r, 0, none⟩ = some (.slice (some ⟨q, 0, none⟩) S.s.length S.s.length) ∧ u.cell? ⟨r', 0, none⟩ = some (.slice (some ⟨q', 0, none⟩) S'.s.length S'.s.length)) ∧ u.cell? ⟨r, 1, none⟩ = some (.int .i64 (S.hand : Int)) ∧ u.cell? ⟨r', 1, none⟩ = some (.int .i64 (S'.hand : Int))) :=
    ((Up.cell (w := w.drew) h.c0 id).and (Up.cell (w := w.drew) h'.c0 id)).and ((Up.cell (w := w.drew) h.c1 id).and (Up.cell (w := w.drew) h'.c1 id))
  by_cases hn : S.s.length = S'.s.length
  · have hnb : ((S.s.length : Int) != (S'.s.length : Int)) = false := by simp [hn]
    by_cases hh : S.hand = S'.hand
    · have hhb : ((S.hand : Int) != (S'.hand : Int)) = false := by simp [hh]
      have HR := Lib.hid h
      have HR' := Lib.hid h'
      have HS := Lib.hid hS
      have HS' := Lib.hid hS'
      have HN := Lib.hid hn
      have c0 := h.c0
      have c0' := h'.c0
      rw [psB_slots hh]
      have h16 := hS.len
      clear h hS h' hS' hh hn
      go_enter Try.func14, Try.ntmps14
      go_wp2_with fail
      refine wp_region_seq (fun _ => False) [] [(0, true), (1, true), (2, true), (3, true), (4, true), (5, true), (6, true), (7, true), (8, true), (9, true), (10, true), (11, true), (12, true), (13, true), (14, true), (15, true), (16, true), (17, true), (18, true), (19, true), (20, true), (21, true)] (by kernel_rfl) (by kernel_rfl) (fun _ _ d _ _ h => by cases d <;> exact h) rfl (by kernel_rfl) ?_
      refine seq_at (some 18) (v := ?_) rfl (by kernel_rfl) (by kernel_rfl) ?_ ?_
      rotate_left
      · intro w' hw'
        obtain ⟨⟨q0, q1⟩, q2, q3⟩ := U w' hw'
        go_simp
        try with_reducible rfl
      simp only [Act.put, List.setIfInBounds_toArray, List.set_cons_zero, List.set_cons_succ]
      refine seq_at (some 19) (v := ?_) rfl (by kernel_rfl) (by kernel_rfl) ?_ ?_
      rotate_left
      · intro w' hw'
        obtain ⟨⟨q0, q1⟩, q2, q3⟩ := U w' hw'
        go_simp
        try with_reducible rfl
      simp only [Act.put, List.setIfInBounds_toArray, List.set_cons_zero, List.set_cons_succ]
      refine seq_at (some 20) (v := ?_) rfl (by kernel_rfl) (by kernel_rfl) ?_ ?_
      rotate_left
      · intro w' hw'
        obtain ⟨⟨q0, q1⟩, q2, q3⟩ := U w' hw'
        go_simp
        try with_reducible rfl
      simp only [Act.put, List.setIfInBounds_toArray, List.set_cons_zero, List.set_cons_succ]
      refine seq_at (some 21) (v := ?_) rfl (by kernel_rfl) (by kernel_rfl) ?_ ?_
      rotate_left
      · intro w' hw'
        obtain ⟨⟨q0, q1⟩, q2, q3⟩ := U w' hw'
        go_simp
        try with_reducible rfl
      simp only [Act.put, List.setIfInBounds_toArray, List.set_cons_zero, List.set_cons_succ]
      refine seq_at (some 22) (v := ?_) rfl (by kernel_rfl) (by kernel_rfl) ?_ ?_
      rotate_left
      · intro w' hw'
        obtain ⟨⟨q0, q1⟩, q2, q3⟩ := U w' hw'
        go_simp
        try with_reducible rfl
      simp only [Act.put, List.setIfInBounds_toArray, List.set_cons_zero, List.set_cons_succ]
      refine seq_at (some 23) (v := ?_) rfl (by kernel_rfl) (by kernel_rfl) ?_ ?_
      rotate_left
      · intro w' hw'
        obtain ⟨⟨q0, q1⟩, q2, q3⟩ := U w' hw'
        go_simp
        try with_reducible rfl
      simp only [Act.put, List.setIfInBounds_toArray, List.set_cons_zero, List.set_cons_succ]
      refine seq_at (some 24) (v := ?_) rfl (by kernel_rfl) (by kernel_rfl) ?_ ?_
      rotate_left
      · intro w' hw'
        obtain ⟨⟨q0, q1⟩, q2, q3⟩ := U w' hw'
        go_simp
        try with_reducible rfl
      simp only [Act.put, List.setIfInBounds_toArray, List.set_cons_zero, List.set_cons_succ]
      refine seq_at (some 25) (v := ?_) rfl (by kernel_rfl) (by kernel_rfl) ?_ ?_
      rotate_left
      · intro w' hw'
        obtain ⟨⟨q0, q1⟩, q2, q3⟩ := U w' hw'
        go_simp
        try with_reducible rfl
      simp only [Act.put, List.setIfInBounds_toArray, List.set_cons_zero, List.set_cons_succ]
      refine seq_at (some 26) (v := ?_) rfl (by kernel_rfl) (by kernel_rfl) ?_ ?_
      rotate_left
      · intro w' hw'
        obtain ⟨⟨q0, q1⟩, q2, q3⟩ := U w' hw'
        go_simp
        try with_reducible rfl
      simp only [Act.put, List.setIfInBounds_toArray, List.set_cons_zero, List.set_cons_succ]
      refine seq_at (some 27) (v := ?_) rfl (by kernel_rfl) (by kernel_rfl) ?_ ?_
      rotate_left
      · intro w' hw'
        obtain ⟨⟨q0, q1⟩, q2, q3⟩ := U w' hw'
        go_simp
        try with_reducible rfl
      simp only [Act.put, List.setIfInBounds_toArray, List.set_cons_zero, List.set_cons_succ]
      refine seq_at (some 28) (v := ?_) rfl (by kernel_rfl) (by kernel_rfl) ?_ ?_
      rotate_left
      · intro w' hw'
        obtain ⟨⟨q0, q1⟩, q2, q3⟩ := U w' hw'
        go_simp
        try with_reducible rfl
      simp only [Act.put, List.setIfInBounds_toArray, List.set_cons_zero, List.set_cons_succ]
      refine seq_at (some 29) (v := ?_) rfl (by kernel_rfl) (by kernel_rfl) ?_ ?_
      rotate_left
      · intro w' hw'
        obtain ⟨⟨q0, q1⟩, q2, q3⟩ := U w' hw'
        go_simp
        try with_reducible rfl
      simp only [Act.put, List.setIfInBounds_toArray, List.set_cons_zero, List.set_cons_succ]
      refine seq_at (some 30) (v := ?_) rfl (by kernel_rfl) (by kernel_rfl) ?_ ?_
      rotate_left
      · intro w' hw'
        obtain ⟨⟨q0, q1⟩, q2, q3⟩ := U w' hw'
        go_simp
        try with_reducible rfl
      simp only [Act.put, List.setIfInBounds_toArray, List.set_cons_zero, List.set_cons_succ]
      refine seq_at (some 31) (v := ?_) rfl (by kernel_rfl) (by kernel_rfl) ?_ ?_
      rotate_left
      · intro w' hw'
        obtain ⟨⟨q0, q1⟩, q2, q3⟩ := U w' hw'
        go_simp
        try with_reducible rfl
      simp only [Act.put, List.setIfInBounds_toArray, List.set_cons_zero, List.set_cons_succ]
      refine seq_at (some 32) (v := ?_) rfl (by kernel_rfl) (by kernel_rfl) ?_ ?_
      rotate_left
      · intro w' hw'
        obtain ⟨⟨q0, q1⟩, q2, q3⟩ := U w' hw'
        go_simp
        try with_reducible rfl
      simp only [Act.put, List.setIfInBounds_toArray, List.set_cons_zero, List.set_cons_succ]
      refine seq_at (some 33) (v := ?_) rfl (by kernel_rfl) (by kernel_rfl) ?_ ?_
      rotate_left
      · intro w' hw'
        obtain ⟨⟨q0, q1⟩, q2, q3⟩ := U w' hw'
        go_simp
        try with_reducible rfl
      simp only [Act.put, List.setIfInBounds_toArray, List.set_cons_zero, List.set_cons_succ]
      refine seq_at (some 34) (v := ?_) rfl (by kernel_rfl) (by kernel_rfl) ?_ ?_
      rotate_left
      · intro w' hw'
        obtain ⟨⟨q0, q1⟩, q2, q3⟩ := U w' hw'
        go_simp
        try with_reducible rfl
      simp only [Act.put, List.setIfInBounds_toArray, List.set_cons_zero, List.set_cons_succ]
      refine seq_at (some 35) (v := ?_) rfl (by kernel_rfl) (by kernel_rfl) ?_ ?_
      rotate_left
      · intro w' hw'
        obtain ⟨⟨q0, q1⟩, q2, q3⟩ := U w' hw'
        go_simp
        try with_reducible rfl
      simp only [Act.put, List.setIfInBounds_toArray, List.set_cons_zero, List.set_cons_succ]
      refine seq_at (some 36) (v := ?_) rfl (by kernel_rfl) (by kernel_rfl) ?_ ?_
      rotate_left
      · intro w' hw'
        obtain ⟨⟨q0, q1⟩, q2, q3⟩ := U w' hw'
        go_simp
        try with_reducible rfl
      simp only [Act.put, List.setIfInBounds_toArray, List.set_cons_zero, List.set_cons_succ]
      refine seq_at (some 37) (v := ?_) rfl (by kernel_rfl) (by kernel_rfl) ?_ ?_
      rotate_left
      · intro w' hw'
        obtain ⟨⟨q0, q1⟩, q2, q3⟩ := U w' hw'
        go_simp
        try with_reducible rfl
      simp only [Act.put, List.setIfInBounds_toArray, List.set_cons_zero, List.set_cons_succ]
      refine seq_at (some 38) (v := ?_) rfl (by kernel_rfl) (by kernel_rfl) ?_ ?_
      rotate_left
      · intro w' hw'
        obtain ⟨⟨q0, q1⟩, q2, q3⟩ := U w' hw'
        go_simp
        try with_reducible rfl
      simp only [Act.put, List.setIfInBounds_toArray, List.set_cons_zero, List.set_cons_succ]
      refine seq_at (some 39) (v := ?_) rfl (by kernel_rfl) (by kernel_rfl) ?_ ?_
      rotate_left
      · intro w' hw'
        obtain ⟨⟨q0, q1⟩, q2, q3⟩ := U w' hw'
        go_simp
        try with_reducible rfl
      simp only [Act.put, List.setIfInBounds_toArray, List.set_cons_zero, List.set_cons_succ]
      refine seq_nil ?_
      clear U hnb hhb
      go_wp2_with fail
      go_loopg [5] S.s.length (fun kk i wr => ∃ j n : Nat, i = .int .i64 (j : Int) ∧ Hid (j + kk = S.s.length ∧ slotsB (S.s.drop j) (S'.s.drop j) = slotsB S.s S'.s) ∧ w.drewN n = wr)
      case atStart => exact ⟨0, 1, rfl, Lib.hid ⟨Nat.zero_add _, rfl⟩, rfl⟩
      case round =>
        obtain ⟨j, n, rfl, hj, rfl⟩ := hrel
        by_cases hlt : j < S.s.length
        · have hlI : (j : Int) < (S.s.length : Int) := by omega
          have hlt' : j < S'.s.length := by rw [← HN.out]; exact hlt
          have hlI' : (j : Int) < (S'.s.length : Int) := by omega
          have hg := List.getElem?_eq_getElem hlt
          have hg' := List.getElem?_eq_getElem hlt'
          have hq := hj.out.2
          rw [List.drop_eq_getElem_cons hlt, List.drop_eq_getElem_cons hlt'] at hq
          simp only [slotsB] at hq
          generalize S.s[j] = x at *
          generalize S'.s[j] = y at *
          have heq := fun u => sl_equal u x y (sfr_of HS.out x (List.mem_of_getElem? hg)) (sfr_of HS'.out y (List.mem_of_getElem? hg'))
          have L1 : Up (fun _ => False) (w.drewN n).drew (fun u => (Instr.loadAt 84 (.pointer (some ⟨q, j * 105, none⟩))).run Try.prog u = .ok (.agg (scA x)) u) := fun u hu => load_slot (HR.out.kept (T := fun _ => False) ((Ex.drewN _ w n).trans ((Ex.drew _ _).trans hu)) id id) HS.out hg
          have L2 : Up (fun _ => False) (w.drewN n).drew (fun u => (Instr.loadAt 84 (.pointer (some ⟨q', j * 105, none⟩))).run Try.prog u = .ok (.agg (scA y)) u) := fun u hu => load_slot (HR'.out.kept (T := fun _ => False) ((Ex.drewN _ w n).trans ((Ex.drew _ _).trans hu)) id id) HS'.out hg'
          have U : Up (fun _ => False) (w.drewN n).drew (fun u => u.cell? ⟨r, 0, none⟩ = some (.slice (some ⟨q, 0, none⟩) S.s.length S.s.length) ∧ u.cell? ⟨r', 0, none⟩ = some (.slice (some ⟨q', 0, none⟩) S'.s.length S'.s.length)) := (Up.cell (w := (w.drewN n).drew) c0 id).and (Up.cell (w := (w.drewN n).drew) c0' id)
          cases hb : slotB x y with
          | true =>
            rw [hb] at hq heq
            have HQ := Lib.hid hq
            clear hq hg hg' hb
            go_wp2_with fail
            refine wp_region_seq (fun _ => False) [] [(0, true), (1, true), (2, true), (3, true), (4, true), (5, true), (6, true), (7, true), (8, true), (9, true), (10, true), (11, true), (12, true), (13, true), (14, true)] (by kernel_rfl) (by kernel_rfl) (fun _ _ d _ _ h => by cases d <;> exact h) rfl (by kernel_rfl) ?_
            refine seq_at (some 49) (v := ?_) rfl (by kernel_rfl) (by kernel_rfl) ?_ ?_
            rotate_left
            · intro w' hw'
              obtain ⟨q0, q1⟩ := U w' hw'
              go_simp
              try with_reducible rfl
            simp only [Act.put, List.setIfInBounds_toArray, List.set_cons_zero, List.set_cons_succ]
            refine seq_at (some 50) (v := ?_) rfl (by kernel_rfl) (by kernel_rfl) ?_ ?_
            rotate_left
            · intro w' hw'
              obtain ⟨q0, q1⟩ := U w' hw'
              go_simp
              try with_reducible rfl
            simp only [Act.put, List.setIfInBounds_toArray, List.set_cons_zero, List.set_cons_succ]
            refine seq_at (some 51) (v := ?_) rfl (by kernel_rfl) (by kernel_rfl) ?_ ?_
            rotate_left
            · intro w' hw'
              obtain ⟨q0, q1⟩ := U w' hw'
              go_simp
              try with_reducible rfl
            simp only [Act.put, List.setIfInBounds_toArray, List.set_cons_zero, List.set_cons_succ]
            refine seq_at (some 52) (v := ?_) rfl (by kernel_rfl) (by kernel_rfl) ?_ ?_
            rotate_left
            · intro w' hw'
              obtain ⟨q0, q1⟩ := U w' hw'
              go_simp
              try with_reducible rfl
            simp only [Act.put, List.setIfInBounds_toArray, List.set_cons_zero, List.set_cons_succ]
            refine seq_at (some 53) (v := ?_) rfl (by kernel_rfl) (by kernel_rfl) ?_ ?_
            rotate_left
            · intro w' hw'
              obtain ⟨q0, q1⟩ := U w' hw'
              go_simp
              try with_reducible rfl
            simp only [Act.put, List.setIfInBounds_toArray, List.set_cons_zero, List.set_cons_succ]
            refine seq_at (some 54) (v := ?_) rfl (by kernel_rfl) (by kernel_rfl) ?_ ?_
            rotate_left
            · intro w' hw'
              obtain ⟨q0, q1⟩ := U w' hw'
              go_simp
              try with_reducible rfl
            simp only [Act.put, List.setIfInBounds_toArray, List.set_cons_zero, List.set_cons_succ]
            refine seq_load_cells (some 55) rfl (by kernel_rfl) (by kernel_rfl) 84 (.tmp 54) rfl ⟨q, j * 105, none⟩ _ rfl L1 ?_
            simp only [Act.put, List.setIfInBounds_toArray, List.set_cons_zero, List.set_cons_succ]
            refine seq_at (some 56) (v := ?_) rfl (by kernel_rfl) (by kernel_rfl) ?_ ?_
            rotate_left
            · intro w' hw'
              obtain ⟨q0, q1⟩ := U w' hw'
              go_simp
              try with_reducible rfl
            simp only [Act.put, List.setIfInBounds_toArray, List.set_cons_zero, List.set_cons_succ]
            refine seq_at (some 57) (v := ?_) rfl (by kernel_rfl) (by kernel_rfl) ?_ ?_
            rotate_left
            · intro w' hw'
              obtain ⟨q0, q1⟩ := U w' hw'
              go_simp
              try with_reducible rfl
            simp only [Act.put, List.setIfInBounds_toArray, List.set_cons_zero, List.set_cons_succ]
            refine seq_at (some 58) (v := ?_) rfl (by kernel_rfl) (by kernel_rfl) ?_ ?_
            rotate_left
            · intro w' hw'
              obtain ⟨q0, q1⟩ := U w' hw'
              go_simp
              try with_reducible rfl
            simp only [Act.put, List.setIfInBounds_toArray, List.set_cons_zero, List.set_cons_succ]
            refine seq_at (some 59) (v := ?_) rfl (by kernel_rfl) (by kernel_rfl) ?_ ?_
            rotate_left
            · intro w' hw'
              obtain ⟨q0, q1⟩ := U w' hw'
              go_simp
              try with_reducible rfl
            simp only [Act.put, List.setIfInBounds_toArray, List.set_cons_zero, List.set_cons_succ]
            refine seq_at (some 60) (v := ?_) rfl (by kernel_rfl) (by kernel_rfl) ?_ ?_
            rotate_left
            · intro w' hw'
              obtain ⟨q0, q1⟩ := U w' hw'
              go_simp
              try with_reducible rfl
            simp only [Act.put, List.setIfInBounds_toArray, List.set_cons_zero, List.set_cons_succ]
            refine seq_at (some 61) (v := ?_) rfl (by kernel_rfl) (by kernel_rfl) ?_ ?_
            rotate_left
            · intro w' hw'
              obtain ⟨q0, q1⟩ := U w' hw'
              go_simp
              try with_reducible rfl
            simp only [Act.put, List.setIfInBounds_toArray, List.set_cons_zero, List.set_cons_succ]
            refine seq_load_cells (some 62) rfl (by kernel_rfl) (by kernel_rfl) 84 (.tmp 61) rfl ⟨q', j * 105, none⟩ _ rfl L2 ?_
            simp only [Act.put, List.setIfInBounds_toArray, List.set_cons_zero, List.set_cons_succ]
            refine seq_at (some 63) (v := ?_) rfl (by kernel_rfl) (by kernel_rfl) ?_ ?_
            rotate_left
            · intro w' hw'
              go_simp
              try with_reducible rfl
            simp only [Act.put, List.setIfInBounds_toArray, List.set_cons_zero, List.set_cons_succ]
            refine seq_nil ?_
            go_wp2_with fail
            go_roundg (gk - 1)
            case measure => have := hj.out; omega
            case rel => exact ⟨j + 1, n + 1, (by go_num), Lib.hid ⟨(by have := hj.out; omega), by rw [← HQ.out, Bool.true_and]⟩, rfl⟩
          | false =>
            rw [hb] at hq heq
            have HQ := Lib.hid hq
            clear hq hg hg' hb
            go_wp2_with fail
            refine wp_region_seq (fun _ => False) [] [(0, true), (1, true), (2, true), (3, true), (4, true), (5, true), (6, true), (7, true), (8, true), (9, true), (10, true), (11, true), (12, true), (13, true), (14, true)] (by kernel_rfl) (by kernel_rfl) (fun _ _ d _ _ h => by cases d <;> exact h) rfl (by kernel_rfl) ?_
            refine seq_at (some 49) (v := ?_) rfl (by kernel_rfl) (by kernel_rfl) ?_ ?_
            rotate_left
            · intro w' hw'
              obtain ⟨q0, q1⟩ := U w' hw'
              go_simp
              try with_reducible rfl
            simp only [Act.put, List.setIfInBounds_toArray, List.set_cons_zero, List.set_cons_succ]
            refine seq_at (some 50) (v := ?_) rfl (by kernel_rfl) (by kernel_rfl) ?_ ?_
            rotate_left
            · intro w' hw'
              obtain ⟨q0, q1⟩ := U w' hw'
              go_simp
              try with_reducible rfl
            simp only [Act.put, List.setIfInBounds_toArray, List.set_cons_zero, List.set_cons_succ]
            refine seq_at (some 51) (v := ?_) rfl (by kernel_rfl) (by kernel_rfl) ?_ ?_
            rotate_left
            · intro w' hw'
              obtain ⟨q0, q1⟩ := U w' hw'
              go_simp
              try with_reducible rfl
            simp only [Act.put, List.setIfInBounds_toArray, List.set_cons_zero, List.set_cons_succ]
            refine seq_at (some 52) (v := ?_) rfl (by kernel_rfl) (by kernel_rfl) ?_ ?_
            rotate_left
            · intro w' hw'
              obtain ⟨q0, q1⟩ := U w' hw'
              go_simp
              try with_reducible rfl
            simp only [Act.put, List.setIfInBounds_toArray, List.set_cons_zero, List.set_cons_succ]
            refine seq_at (some 53) (v := ?_) rfl (by kernel_rfl) (by kernel_rfl) ?_ ?_
            rotate_left
            · intro w' hw'
              obtain ⟨q0, q1⟩ := U w' hw'
              go_simp
              try with_reducible rfl
            simp only [Act.put, List.setIfInBounds_toArray, List.set_cons_zero, List.set_cons_succ]
            refine seq_at (some 54) (v := ?_) rfl (by kernel_rfl) (by kernel_rfl) ?_ ?_
            rotate_left
            · intro w' hw'
              obtain ⟨q0, q1⟩ := U w' hw'
              go_simp
              try with_reducible rfl
            simp only [Act.put, List.setIfInBounds_toArray, List.set_cons_zero, List.set_cons_succ]
            refine seq_load_cells (some 55) rfl (by kernel_rfl) (by kernel_rfl) 84 (.tmp 54) rfl ⟨q, j * 105, none⟩ _ rfl L1 ?_
            simp only [Act.put, List.setIfInBounds_toArray, List.set_cons_zero, List.set_cons_succ]
            refine seq_at (some 56) (v := ?_) rfl (by kernel_rfl) (by kernel_rfl) ?_ ?_
            rotate_left
            · intro w' hw'
              obtain ⟨q0, q1⟩ := U w' hw'
              go_simp
              try with_reducible rfl
            simp only [Act.put, List.setIfInBounds_toArray, List.set_cons_zero, List.set_cons_succ]
            refine seq_at (some 57) (v := ?_) rfl (by kernel_rfl) (by kernel_rfl) ?_ ?_
            rotate_left
            · intro w' hw'
              obtain ⟨q0, q1⟩ := U w' hw'
              go_simp
              try with_reducible rfl
            simp only [Act.put, List.setIfInBounds_toArray, List.set_cons_zero, List.set_cons_succ]
            refine seq_at (some 58) (v := ?_) rfl (by kernel_rfl) (by kernel_rfl) ?_ ?_
            rotate_left
            · intro w' hw'
              obtain ⟨q0, q1⟩ := U w' hw'
              go_simp
              try with_reducible rfl
            simp only [Act.put, List.setIfInBounds_toArray, List.set_cons_zero, List.set_cons_succ]
            refine seq_at (some 59) (v := ?_) rfl (by kernel_rfl) (by kernel_rfl) ?_ ?_
            rotate_left
            · intro w' hw'
              obtain ⟨q0, q1⟩ := U w' hw'
              go_simp
              try with_reducible rfl
            simp only [Act.put, List.setIfInBounds_toArray, List.set_cons_zero, List.set_cons_succ]
            refine seq_at (some 60) (v := ?_) rfl (by kernel_rfl) (by kernel_rfl) ?_ ?_
            rotate_left
            · intro w' hw'
              obtain ⟨q0, q1⟩ := U w' hw'
              go_simp
              try with_reducible rfl
            simp only [Act.put, List.setIfInBounds_toArray, List.set_cons_zero, List.set_cons_succ]
            refine seq_at (some 61) (v := ?_) rfl (by kernel_rfl) (by kernel_rfl) ?_ ?_
            rotate_left
            · intro w' hw'
              obtain ⟨q0, q1⟩ := U w' hw'
              go_simp
              try with_reducible rfl
            simp only [Act.put, List.setIfInBounds_toArray, List.set_cons_zero, List.set_cons_succ]
            refine seq_load_cells (some 62) rfl (by kernel_rfl) (by kernel_rfl) 84 (.tmp 61) rfl ⟨q', j * 105, none⟩ _ rfl L2 ?_
            simp only [Act.put, List.setIfInBounds_toArray, List.set_cons_zero, List.set_cons_succ]
            refine seq_at (some 63) (v := ?_) rfl (by kernel_rfl) (by kernel_rfl) ?_ ?_
            rotate_left
            · intro w' hw'
              go_simp
              try with_reducible rfl
            simp only [Act.put, List.setIfInBounds_toArray, List.set_cons_zero, List.set_cons_succ]
            refine seq_nil ?_
            go_wp2_with fail
            go_ret
            exact ⟨by rw [← HQ.out]; rfl, n + 1, rfl⟩
        · have HQ : Hid (slotsB S.s S'.s = true) := Lib.hid (by rw [← hj.out.2, List.drop_eq_nil_of_le (by omega), List.drop_eq_nil_of_le (by have := HN.out; omega)]; rfl)
          go_wp2_with fail
          go_ret
          exact ⟨by rw [HQ.out]; rfl, n, rfl⟩
    · have hhb : ((S.hand : Int) != (S'.hand : Int)) = true := by simp; omega
      have HR := Lib.hid (psB_hand hh)
      clear h hS h' hS' hn hh
      go_enter Try.func14, Try.ntmps14
      go_wp2_with fail
      refine wp_region_seq (fun _ => False) [] [(0, true), (1, true), (2, true), (3, true), (4, true), (5, true), (6, true), (7, true), (8, true), (9, true), (10, true), (11, true), (12, true), (13, true), (14, true), (15, true), (16, true), (17, true), (18, true), (19, true), (20, true), (21, true)] (by kernel_rfl) (by kernel_rfl) (fun _ _ d _ _ h => by cases d <;> exact h) rfl (by kernel_rfl) ?_
      refine seq_at (some 18) (v := ?_) rfl (by kernel_rfl) (by kernel_rfl) ?_ ?_
      rotate_left
      · intro w' hw'
        obtain ⟨⟨q0, q1⟩, q2, q3⟩ := U w' hw'
        go_simp
        try with_reducible rfl
      simp only [Act.put, List.setIfInBounds_toArray, List.set_cons_zero, List.set_cons_succ]
      refine seq_at (some 19) (v := ?_) rfl (by kernel_rfl) (by kernel_rfl) ?_ ?_
      rotate_left
      · intro w' hw'
        obtain ⟨⟨q0, q1⟩, q2, q3⟩ := U w' hw'
        go_simp
        try with_reducible rfl
      simp only [Act.put, List.setIfInBounds_toArray, List.set_cons_zero, List.set_cons_succ]
      refine seq_at (some 20) (v := ?_) rfl (by kernel_rfl) (by kernel_rfl) ?_ ?_
      rotate_left
      · intro w' hw'
        obtain ⟨⟨q0, q1⟩, q2, q3⟩ := U w' hw'
        go_simp
        try with_reducible rfl
      simp only [Act.put, List.setIfInBounds_toArray, List.set_cons_zero, List.set_cons_succ]
      refine seq_at (some 21) (v := ?_) rfl (by kernel_rfl) (by kernel_rfl) ?_ ?_
      rotate_left
      · intro w' hw'
        obtain ⟨⟨q0, q1⟩, q2, q3⟩ := U w' hw'
        go_simp
        try with_reducible rfl
      simp only [Act.put, List.setIfInBounds_toArray, List.set_cons_zero, List.set_cons_succ]
      refine seq_at (some 22) (v := ?_) rfl (by kernel_rfl) (by kernel_rfl) ?_ ?_
      rotate_left
      · intro w' hw'
        obtain ⟨⟨q0, q1⟩, q2, q3⟩ := U w' hw'
        go_simp
        try with_reducible rfl
      simp only [Act.put, List.setIfInBounds_toArray, List.set_cons_zero, List.set_cons_succ]
      refine seq_at (some 23) (v := ?_) rfl (by kernel_rfl) (by kernel_rfl) ?_ ?_
      rotate_left
      · intro w' hw'
        obtain ⟨⟨q0, q1⟩, q2, q3⟩ := U w' hw'
        go_simp
        try with_reducible rfl
      simp only [Act.put, List.setIfInBounds_toArray, List.set_cons_zero, List.set_cons_succ]
      refine seq_at (some 24) (v := ?_) rfl (by kernel_rfl) (by kernel_rfl) ?_ ?_
      rotate_left
      · intro w' hw'
        obtain ⟨⟨q0, q1⟩, q2, q3⟩ := U w' hw'
        go_simp
        try with_reducible rfl
      simp only [Act.put, List.setIfInBounds_toArray, List.set_cons_zero, List.set_cons_succ]
      refine seq_at (some 25) (v := ?_) rfl (by kernel_rfl) (by kernel_rfl) ?_ ?_
      rotate_left
      · intro w' hw'
        obtain ⟨⟨q0, q1⟩, q2, q3⟩ := U w' hw'
        go_simp
        try with_reducible rfl
      simp only [Act.put, List.setIfInBounds_toArray, List.set_cons_zero, List.set_cons_succ]
      refine seq_at (some 26) (v := ?_) rfl (by kernel_rfl) (by kernel_rfl) ?_ ?_
      rotate_left
      · intro w' hw'
        obtain ⟨⟨q0, q1⟩, q2, q3⟩ := U w' hw'
        go_simp
        try with_reducible rfl
      simp only [Act.put, List.setIfInBounds_toArray, List.set_cons_zero, List.set_cons_succ]
      refine seq_at (some 27) (v := ?_) rfl (by kernel_rfl) (by kernel_rfl) ?_ ?_
      rotate_left
      · intro w' hw'
        obtain ⟨⟨q0, q1⟩, q2, q3⟩ := U w' hw'
        go_simp
        try with_reducible rfl
      simp only [Act.put, List.setIfInBounds_toArray, List.set_cons_zero, List.set_cons_succ]
      refine seq_at (some 28) (v := ?_) rfl (by kernel_rfl) (by kernel_rfl) ?_ ?_
      rotate_left
      · intro w' hw'
        obtain ⟨⟨q0, q1⟩, q2, q3⟩ := U w' hw'
        go_simp
        try with_reducible rfl
      simp only [Act.put, List.setIfInBounds_toArray, List.set_cons_zero, List.set_cons_succ]
      refine seq_at (some 29) (v := ?_) rfl (by kernel_rfl) (by kernel_rfl) ?_ ?_
      rotate_left
      · intro w' hw'
        obtain ⟨⟨q0, q1⟩, q2, q3⟩ := U w' hw'
        go_simp
        try with_reducible rfl
      simp only [Act.put, List.setIfInBounds_toArray, List.set_cons_zero, List.set_cons_succ]
      refine seq_at (some 30) (v := ?_) rfl (by kernel_rfl) (by kernel_rfl) ?_ ?_
      rotate_left
      · intro w' hw'
        obtain ⟨⟨q0, q1⟩, q2, q3⟩ := U w' hw'
        go_simp
        try with_reducible rfl
      simp only [Act.put, List.setIfInBounds_toArray, List.set_cons_zero, List.set_cons_succ]
      refine seq_at (some 31) (v := ?_) rfl (by kernel_rfl) (by kernel_rfl) ?_ ?_
      rotate_left
      · intro w' hw'
        obtain ⟨⟨q0, q1⟩, q2, q3⟩ := U w' hw'
        go_simp
        try with_reducible rfl
      simp only [Act.put, List.setIfInBounds_toArray, List.set_cons_zero, List.set_cons_succ]
      refine seq_at (some 32) (v := ?_) rfl (by kernel_rfl) (by kernel_rfl) ?_ ?_
      rotate_left
      · intro w' hw'
        obtain ⟨⟨q0, q1⟩, q2, q3⟩ := U w' hw'
        go_simp
        try with_reducible rfl
      simp only [Act.put, List.setIfInBounds_toArray, List.set_cons_zero, List.set_cons_succ]
      refine seq_at (some 33) (v := ?_) rfl (by kernel_rfl) (by kernel_rfl) ?_ ?_
      rotate_left
      · intro w' hw'
        obtain ⟨⟨q0, q1⟩, q2, q3⟩ := U w' hw'
        go_simp
        try with_reducible rfl
      simp only [Act.put, List.setIfInBounds_toArray, List.set_cons_zero, List.set_cons_succ]
      refine seq_at (some 34) (v := ?_) rfl (by kernel_rfl) (by kernel_rfl) ?_ ?_
      rotate_left
      · intro w' hw'
        obtain ⟨⟨q0, q1⟩, q2, q3⟩ := U w' hw'
        go_simp
        try with_reducible rfl
      simp only [Act.put, List.setIfInBounds_toArray, List.set_cons_zero, List.set_cons_succ]
      refine seq_at (some 35) (v := ?_) rfl (by kernel_rfl) (by kernel_rfl) ?_ ?_
      rotate_left
      · intro w' hw'
        obtain ⟨⟨q0, q1⟩, q2, q3⟩ := U w' hw'
        go_simp
        try with_reducible rfl
      simp only [Act.put, List.setIfInBounds_toArray, List.set_cons_zero, List.set_cons_succ]
      refine seq_at (some 36) (v := ?_) rfl (by kernel_rfl) (by kernel_rfl) ?_ ?_
      rotate_left
      · intro w' hw'
        obtain ⟨⟨q0, q1⟩, q2, q3⟩ := U w' hw'
        go_simp
        try with_reducible rfl
      simp only [Act.put, List.setIfInBounds_toArray, List.set_cons_zero, List.set_cons_succ]
      refine seq_at (some 37) (v := ?_) rfl (by kernel_rfl) (by kernel_rfl) ?_ ?_
      rotate_left
      · intro w' hw'
        obtain ⟨⟨q0, q1⟩, q2, q3⟩ := U w' hw'
        go_simp
        try with_reducible rfl
      simp only [Act.put, List.setIfInBounds_toArray, List.set_cons_zero, List.set_cons_succ]
      refine seq_at (some 38) (v := ?_) rfl (by kernel_rfl) (by kernel_rfl) ?_ ?_
      rotate_left
      · intro w' hw'
        obtain ⟨⟨q0, q1⟩, q2, q3⟩ := U w' hw'
        go_simp
        try with_reducible rfl
      simp only [Act.put, List.setIfInBounds_toArray, List.set_cons_zero, List.set_cons_succ]
      refine seq_at (some 39) (v := ?_) rfl (by kernel_rfl) (by kernel_rfl) ?_ ?_
      rotate_left
      · intro w' hw'
        obtain ⟨⟨q0, q1⟩, q2, q3⟩ := U w' hw'
        go_simp
        try with_reducible rfl
      simp only [Act.put, List.setIfInBounds_toArray, List.set_cons_zero, List.set_cons_succ]
      refine seq_nil ?_
      go_wp2_with fail
      go_ret
      exact ⟨by rw [HR.out]; rfl, 1, rfl⟩
  · have hnb : ((S.s.length : Int) != (S'.s.length : Int)) = true := by simp; omega
    have HR := Lib.hid (psB_len hn)
    clear h hS h' hS' hn
    go_enter Try.func14, Try.ntmps14
    go_wp2_with fail
    refine wp_region_seq (fun _ => False) [] [(0, true), (1, true), (2, true), (3, true), (4, true), (5, true), (6, true), (7, true), (8, true), (9, true), (10, true), (11, true), (12, true), (13, true), (14, true), (15, true), (16, true), (17, true), (18, true), (19, true), (20, true), (21, true)] (by kernel_rfl) (by kernel_rfl) (fun _ _ d _ _ h => by cases d <;> exact h) rfl (by kernel_rfl) ?_
    refine seq_at (some 18) (v := ?_) rfl (by kernel_rfl) (by kernel_rfl) ?_ ?_
    rotate_left
    · intro w' hw'
      obtain ⟨⟨q0, q1⟩, q2, q3⟩ := U w' hw'
      go_simp
      try with_reducible rfl
    simp only [Act.put, List.setIfInBounds_toArray, List.set_cons_zero, List.set_cons_succ]
    refine seq_at (some 19) (v := ?_) rfl (by kernel_rfl) (by kernel_rfl) ?_ ?_
    rotate_left
    · intro w' hw'
      obtain ⟨⟨q0, q1⟩, q2, q3⟩ := U w' hw'
      go_simp
      try with_reducible rfl
    simp only [Act.put, List.setIfInBounds_toArray, List.set_cons_zero, List.set_cons_succ]
    refine seq_at (some 20) (v := ?_) rfl (by kernel_rfl) (by kernel_rfl) ?_ ?_
    rotate_left
    · intro w' hw'
      obtain ⟨⟨q0, q1⟩, q2, q3⟩ := U w' hw'
      go_simp
      try with_reducible rfl
    simp only [Act.put, List.setIfInBounds_toArray, List.set_cons_zero, List.set_cons_succ]
    refine seq_at (some 21) (v := ?_) rfl (by kernel_rfl) (by kernel_rfl) ?_ ?_
    rotate_left
    · intro w' hw'
      obtain ⟨⟨q0, q1⟩, q2, q3⟩ := U w' hw'
      go_simp
      try with_reducible rfl
    simp only [Act.put, List.setIfInBounds_toArray, List.set_cons_zero, List.set_cons_succ]
    refine seq_at (some 22) (v := ?_) rfl (by kernel_rfl) (by kernel_rfl) ?_ ?_
    rotate_left
    · intro w' hw'
      obtain ⟨⟨q0, q1⟩, q2, q3⟩ := U w' hw'
      go_simp
      try with_reducible rfl
    simp only [Act.put, List.setIfInBounds_toArray, List.set_cons_zero, List.set_cons_succ]
    refine seq_at (some 23) (v := ?_) rfl (by kernel_rfl) (by kernel_rfl) ?_ ?_
    rotate_left
    · intro w' hw'
      obtain ⟨⟨q0, q1⟩, q2, q3⟩ := U w' hw'
      go_simp
      try with_reducible rfl
    simp only [Act.put, List.setIfInBounds_toArray, List.set_cons_zero, List.set_cons_succ]
    refine seq_at (some 24) (v := ?_) rfl (by kernel_rfl) (by kernel_rfl) ?_ ?_
    rotate_left
    · intro w' hw'
      obtain ⟨⟨q0, q1⟩, q2, q3⟩ := U w' hw'
      go_simp
      try with_reducible rfl
    simp only [Act.put, List.setIfInBounds_toArray, List.set_cons_zero, List.set_cons_succ]
    refine seq_at (some 25) (v := ?_) rfl (by kernel_rfl) (by kernel_rfl) ?_ ?_
    rotate_left
    · intro w' hw'
      obtain ⟨⟨q0, q1⟩, q2, q3⟩ := U w' hw'
      go_simp
      try with_reducible rfl
    simp only [Act.put, List.setIfInBounds_toArray, List.set_cons_zero, List.set_cons_succ]
    refine seq_at (some 26) (v := ?_) rfl (by kernel_rfl) (by kernel_rfl) ?_ ?_
    rotate_left
    · intro w' hw'
      obtain ⟨⟨q0, q1⟩, q2, q3⟩ := U w' hw'
      go_simp
      try with_reducible rfl
    simp only [Act.put, List.setIfInBounds_toArray, List.set_cons_zero, List.set_cons_succ]
    refine seq_at (some 27) (v := ?_) rfl (by kernel_rfl) (by kernel_rfl) ?_ ?_
    rotate_left
    · intro w' hw'
      obtain ⟨⟨q0, q1⟩, q2, q3⟩ := U w' hw'
      go_simp
      try with_reducible rfl
    simp only [Act.put, List.setIfInBounds_toArray, List.set_cons_zero, List.set_cons_succ]
    refine seq_at (some 28) (v := ?_) rfl (by kernel_rfl) (by kernel_rfl) ?_ ?_
    rotate_left
    · intro w' hw'
      obtain ⟨⟨q0, q1⟩, q2, q3⟩ := U w' hw'
      go_simp
      try with_reducible rfl
    simp only [Act.put, List.setIfInBounds_toArray, List.set_cons_zero, List.set_cons_succ]
    refine seq_at (some 29) (v := ?_) rfl (by kernel_rfl) (by kernel_rfl) ?_ ?_
    rotate_left
    · intro w' hw'
      obtain ⟨⟨q0, q1⟩, q2, q3⟩ := U w' hw'
      go_simp
      try with_reducible rfl
    simp only [Act.put, List.setIfInBounds_toArray, List.set_cons_zero, List.set_cons_succ]
    refine seq_skip (some 30) rfl (by kernel_rfl) (by kernel_rfl) ?_
    simp only [Act.put, List.setIfInBounds_toArray, List.set_cons_zero, List.set_cons_succ]
    refine seq_skip (some 31) rfl (by kernel_rfl) (by kernel_rfl) ?_
    simp only [Act.put, List.setIfInBounds_toArray, List.set_cons_zero, List.set_cons_succ]
    refine seq_skip (some 32) rfl (by kernel_rfl) (by kernel_rfl) ?_
    simp only [Act.put, List.setIfInBounds_toArray, List.set_cons_zero, List.set_cons_succ]
    refine seq_skip (some 33) rfl (by kernel_rfl) (by kernel_rfl) ?_
    simp only [Act.put, List.setIfInBounds_toArray, List.set_cons_zero, List.set_cons_succ]
    refine seq_skip (some 34) rfl (by kernel_rfl) (by kernel_rfl) ?_
    simp only [Act.put, List.setIfInBounds_toArray, List.set_cons_zero, List.set_cons_succ]
    refine seq_skip (some 35) rfl (by kernel_rfl) (by kernel_rfl) ?_
    simp only [Act.put, List.setIfInBounds_toArray, List.set_cons_zero, List.set_cons_succ]
    refine seq_skip (some 36) rfl (by kernel_rfl) (by kernel_rfl) ?_
    simp only [Act.put, List.setIfInBounds_toArray, List.set_cons_zero, List.set_cons_succ]
    refine seq_skip (some 37) rfl (by kernel_rfl) (by kernel_rfl) ?_
    simp only [Act.put, List.setIfInBounds_toArray, List.set_cons_zero, List.set_cons_succ]
    refine seq_skip (some 38) rfl (by kernel_rfl) (by kernel_rfl) ?_
    simp only [Act.put, List.setIfInBounds_toArray, List.set_cons_zero, List.set_cons_succ]
    refine seq_at (some 39) (v := ?_) rfl (by kernel_rfl) (by kernel_rfl) ?_ ?_
    rotate_left
    · intro w' hw'
      go_simp
      try with_reducible rfl
    simp only [Act.put, List.setIfInBounds_toArray, List.set_cons_zero, List.set_cons_succ]
    refine seq_nil ?_
    go_wp2_with fail
    go_ret
    exact ⟨by rw [HR.out]; rfl, 1, rfl⟩
end Go.Proofs.Ytjbjfpbhacpeiaa
