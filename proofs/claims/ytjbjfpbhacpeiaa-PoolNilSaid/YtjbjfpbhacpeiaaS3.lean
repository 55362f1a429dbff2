/- Contract of the pool's Same. -/
import Derived.Test.YtjbjfpbhacpeiaaSa
namespace Go.Proofs.Ytjbjfpbhacpeiaa
open Go.RowKit
set_option linter.unusedSimpArgs false
set_option linter.unusedVariables false
set_option maxRecDepth 100000

theorem infoArr : (Try.prog.info? 67).map (·.size) = some 1680 := by kernel_rfl
/-- the row of places, loaded -/
theorem load_places {w : World} {b m : Nat} {K : Int} {S : PS} (h : PoolAt w b m S) (hS : S.Ok K) : (Instr.loadAt 67 (.pointer (some ⟨b, 0, none⟩))).run Try.prog w = .ok (.agg (plA (full S))) w := by
  refine run_loadAt_mid w b 0 67 ((full S).flatMap pcells) _ (h.cells.range _ _ fun j v hj => ?_) Try.underlying67 rfl (infoArr.trans (by rw [flat_len hS]))
  rw [Nat.zero_add, plist, List.getElem?_append_left (List.getElem?_eq_some_iff.1 hj).1]
  exact hj
theorem psB_len {S S' : PS} (h : S.s.length ≠ S'.s.length) : psB S S' = false := by
  rw [Bool.eq_false_iff]
  intro e
  rw [psB_iff] at e
  exact h (by rw [e])
theorem psB_hand {S S' : PS} (h : S.hand ≠ S'.hand) : psB S S' = false := by
  rw [Bool.eq_false_iff]
  intro e
  rw [psB_iff] at e
  exact h (by rw [e])
theorem psB_full {S S' : PS} (h : S.s.length = S'.s.length) (hh : S.hand = S'.hand) : slotsB (full S) (full S') = psB S S' := by
  unfold psB full
  rw [h, slotsB_same h, hh]
  simp
set_option maxHeartbeats 8000000 in
theorem same_any (w : World) (b m b' m' : Nat) {K K' : Int} {S S' : PS} (h : PoolAt w b m S) (hS : S.Ok K) (h' : PoolAt w b' m' S') (hS' : S'.Ok K') :
    Calls Try.prog 13 #[.pointer (some ⟨b, 0, none⟩), .pointer (some ⟨b', 0, none⟩)] w (fun e w' => e = .returned (.bool (psB S S')) ∧ ∃ n, w' = w.drewN n) := by
  have HT := Lib.hid (there_yes w b m h hS)
  have HT' := Lib.hid (there_yes w b' m' h' hS')
  have U : Up (fun _ => False) w.drew (fun u => (u.cell? ⟨b, 1680, none⟩ = some (.int .i64 (S.s.length : Int)) ∧ u.cell? ⟨b', 1680, none⟩ = some (.int .i64 (S'.s.length : Int))) ∧ u.cell? ⟨b, 1682, none⟩ = some (.int .i64 (S.hand : Int)) ∧ u.cell? ⟨b', 1682, none⟩ = some (.int .i64 (S'.hand : Int))) :=
    ((Up.cell (w := w.drew) (h.n hS) id).and (Up.cell (w := w.drew) (h'.n hS') id)).and ((Up.cell (w := w.drew) (h.hand hS) id).and (Up.cell (w := w.drew) (h'.hand hS') id))
  have L1 : Up (fun _ => False) w.drew (fun u => (Instr.loadAt 67 (.pointer (some ⟨b, 0, none⟩))).run Try.prog u = .ok (.agg (plA (full S))) u) := fun u hu => load_places (h.kept (T := fun _ => False) ((Ex.drew _ w).trans hu) id id) hS
  have L2 : Up (fun _ => False) w.drew (fun u => (Instr.loadAt 67 (.pointer (some ⟨b', 0, none⟩))).run Try.prog u = .ok (.agg (plA (full S'))) u) := fun u hu => load_places (h'.kept (T := fun _ => False) ((Ex.drew _ w).trans hu) id id) hS'
  have heq := fun u => places_equal u hS hS'
  by_cases hn : S.s.length = S'.s.length
  · have hnb : ((S.s.length : Int) == (S'.s.length : Int)) = true := by simp [hn]
    by_cases hh : S.hand = S'.hand
    · have hhb : ((S.hand : Int) == (S'.hand : Int)) = true := by simp [hh]
      rw [psB_full hn hh] at heq
      generalize psB S S' = R at *
      clear h hS h' hS' hn hh
      go_enter Try.func13, Try.ntmps13
      go_wp2_with fail
      refine HT.out.mono ?_
      rintro e w' ⟨rfl, rfl⟩
      go_wp2_with fail
      refine HT'.out.mono ?_
      rintro e w' ⟨rfl, rfl⟩
      go_wp2_with fail
      refine wp_region_seq (fun _ => False) [] [(0, true), (1, true), (2, true), (3, true), (4, true), (5, true), (6, true), (7, true), (8, true), (9, true), (10, true), (11, true), (12, true), (13, true), (14, true), (15, true), (16, true), (17, true), (18, true), (19, true), (20, true), (21, true), (22, true), (23, true), (24, true), (25, true), (26, true), (27, true), (28, true), (29, true), (30, true), (31, true)] (by kernel_rfl) (by kernel_rfl) (fun _ _ d _ _ h => by cases d <;> exact h) rfl (by kernel_rfl) ?_
      refine seq_at (some 18) (v := ?_) rfl (by kernel_rfl) (by kernel_rfl) ?_ ?_
      rotate_left
      · intro w' hw'
        obtain ⟨⟨q0, q1⟩, q2, q3⟩ := U w' hw'
        go_simp
        try with_reducible rfl
      simp only [Act.put, List.setIfInBounds_toArray, List.set_cons_zero, List.set_cons_succ]
      refine seq_at (some 19) (v := ?_) rfl (by kernel_rfl) (by kernel_rfl) ?_ ?_
      rotate_left
      · intro w' hw'
        obtain ⟨⟨q0, q1⟩, q2, q3⟩ := U w' hw'
        go_simp
        try with_reducible rfl
      simp only [Act.put, List.setIfInBounds_toArray, List.set_cons_zero, List.set_cons_succ]
      refine seq_at (some 20) (v := ?_) rfl (by kernel_rfl) (by kernel_rfl) ?_ ?_
      rotate_left
      · intro w' hw'
        obtain ⟨⟨q0, q1⟩, q2, q3⟩ := U w' hw'
        go_simp
        try with_reducible rfl
      simp only [Act.put, List.setIfInBounds_toArray, List.set_cons_zero, List.set_cons_succ]
      refine seq_at (some 21) (v := ?_) rfl (by kernel_rfl) (by kernel_rfl) ?_ ?_
      rotate_left
      · intro w' hw'
        obtain ⟨⟨q0, q1⟩, q2, q3⟩ := U w' hw'
        go_simp
        try with_reducible rfl
      simp only [Act.put, List.setIfInBounds_toArray, List.set_cons_zero, List.set_cons_succ]
      refine seq_at (some 22) (v := ?_) rfl (by kernel_rfl) (by kernel_rfl) ?_ ?_
      rotate_left
      · intro w' hw'
        obtain ⟨⟨q0, q1⟩, q2, q3⟩ := U w' hw'
        go_simp
        try with_reducible rfl
      simp only [Act.put, List.setIfInBounds_toArray, List.set_cons_zero, List.set_cons_succ]
      refine seq_at (some 23) (v := ?_) rfl (by kernel_rfl) (by kernel_rfl) ?_ ?_
      rotate_left
      · intro w' hw'
        obtain ⟨⟨q0, q1⟩, q2, q3⟩ := U w' hw'
        go_simp
        try with_reducible rfl
      simp only [Act.put, List.setIfInBounds_toArray, List.set_cons_zero, List.set_cons_succ]
      refine seq_at (some 24) (v := ?_) rfl (by kernel_rfl) (by kernel_rfl) ?_ ?_
      rotate_left
      · intro w' hw'
        obtain ⟨⟨q0, q1⟩, q2, q3⟩ := U w' hw'
        go_simp
        try with_reducible rfl
      simp only [Act.put, List.setIfInBounds_toArray, List.set_cons_zero, List.set_cons_succ]
      refine seq_at (some 25) (v := ?_) rfl (by kernel_rfl) (by kernel_rfl) ?_ ?_
      rotate_left
      · intro w' hw'
        obtain ⟨⟨q0, q1⟩, q2, q3⟩ := U w' hw'
        go_simp
        try with_reducible rfl
      simp only [Act.put, List.setIfInBounds_toArray, List.set_cons_zero, List.set_cons_succ]
      refine seq_at (some 26) (v := ?_) rfl (by kernel_rfl) (by kernel_rfl) ?_ ?_
      rotate_left
      · intro w' hw'
        obtain ⟨⟨q0, q1⟩, q2, q3⟩ := U w' hw'
        go_simp
        try with_reducible rfl
      simp only [Act.put, List.setIfInBounds_toArray, List.set_cons_zero, List.set_cons_succ]
      refine seq_at (some 27) (v := ?_) rfl (by kernel_rfl) (by kernel_rfl) ?_ ?_
      rotate_left
      · intro w' hw'
        obtain ⟨⟨q0, q1⟩, q2, q3⟩ := U w' hw'
        go_simp
        try with_reducible rfl
      simp only [Act.put, List.setIfInBounds_toArray, List.set_cons_zero, List.set_cons_succ]
      refine seq_at (some 28) (v := ?_) rfl (by kernel_rfl) (by kernel_rfl) ?_ ?_
      rotate_left
      · intro w' hw'
        obtain ⟨⟨q0, q1⟩, q2, q3⟩ := U w' hw'
        go_simp
        try with_reducible rfl
      simp only [Act.put, List.setIfInBounds_toArray, List.set_cons_zero, List.set_cons_succ]
      refine seq_at (some 29) (v := ?_) rfl (by kernel_rfl) (by kernel_rfl) ?_ ?_
      rotate_left
      · intro w' hw'
        obtain ⟨⟨q0, q1⟩, q2, q3⟩ := U w' hw'
        go_simp
        try with_reducible rfl
      simp only [Act.put, List.setIfInBounds_toArray, List.set_cons_zero, List.set_cons_succ]
      refine seq_at (some 30) (v := ?_) rfl (by kernel_rfl) (by kernel_rfl) ?_ ?_
      rotate_left
      · intro w' hw'
        obtain ⟨⟨q0, q1⟩, q2, q3⟩ := U w' hw'
        go_simp
        try with_reducible rfl
      simp only [Act.put, List.setIfInBounds_toArray, List.set_cons_zero, List.set_cons_succ]
      refine seq_at (some 31) (v := ?_) rfl (by kernel_rfl) (by kernel_rfl) ?_ ?_
      rotate_left
      · intro w' hw'
        obtain ⟨⟨q0, q1⟩, q2, q3⟩ := U w' hw'
        go_simp
        try with_reducible rfl
      simp only [Act.put, List.setIfInBounds_toArray, List.set_cons_zero, List.set_cons_succ]
      refine seq_at (some 32) (v := ?_) rfl (by kernel_rfl) (by kernel_rfl) ?_ ?_
      rotate_left
      · intro w' hw'
        obtain ⟨⟨q0, q1⟩, q2, q3⟩ := U w' hw'
        go_simp
        try with_reducible rfl
      simp only [Act.put, List.setIfInBounds_toArray, List.set_cons_zero, List.set_cons_succ]
      refine seq_at (some 33) (v := ?_) rfl (by kernel_rfl) (by kernel_rfl) ?_ ?_
      rotate_left
      · intro w' hw'
        obtain ⟨⟨q0, q1⟩, q2, q3⟩ := U w' hw'
        go_simp
        try with_reducible rfl
      simp only [Act.put, List.setIfInBounds_toArray, List.set_cons_zero, List.set_cons_succ]
      refine seq_at (some 34) (v := ?_) rfl (by kernel_rfl) (by kernel_rfl) ?_ ?_
      rotate_left
      · intro w' hw'
        obtain ⟨⟨q0, q1⟩, q2, q3⟩ := U w' hw'
        go_simp
        try with_reducible rfl
      simp only [Act.put, List.setIfInBounds_toArray, List.set_cons_zero, List.set_cons_succ]
      refine seq_at (some 35) (v := ?_) rfl (by kernel_rfl) (by kernel_rfl) ?_ ?_
      rotate_left
      · intro w' hw'
        obtain ⟨⟨q0, q1⟩, q2, q3⟩ := U w' hw'
        go_simp
        try with_reducible rfl
      simp only [Act.put, List.setIfInBounds_toArray, List.set_cons_zero, List.set_cons_succ]
      refine seq_at (some 36) (v := ?_) rfl (by kernel_rfl) (by kernel_rfl) ?_ ?_
      rotate_left
      · intro w' hw'
        obtain ⟨⟨q0, q1⟩, q2, q3⟩ := U w' hw'
        go_simp
        try with_reducible rfl
      simp only [Act.put, List.setIfInBounds_toArray, List.set_cons_zero, List.set_cons_succ]
      refine seq_at (some 37) (v := ?_) rfl (by kernel_rfl) (by kernel_rfl) ?_ ?_
      rotate_left
      · intro w' hw'
        obtain ⟨⟨q0, q1⟩, q2, q3⟩ := U w' hw'
        go_simp
        try with_reducible rfl
      simp only [Act.put, List.setIfInBounds_toArray, List.set_cons_zero, List.set_cons_succ]
      refine seq_at (some 38) (v := ?_) rfl (by kernel_rfl) (by kernel_rfl) ?_ ?_
      rotate_left
      · intro w' hw'
        obtain ⟨⟨q0, q1⟩, q2, q3⟩ := U w' hw'
        go_simp
        try with_reducible rfl
      simp only [Act.put, List.setIfInBounds_toArray, List.set_cons_zero, List.set_cons_succ]
      refine seq_at (some 39) (v := ?_) rfl (by kernel_rfl) (by kernel_rfl) ?_ ?_
      rotate_left
      · intro w' hw'
        obtain ⟨⟨q0, q1⟩, q2, q3⟩ := U w' hw'
        go_simp
        try with_reducible rfl
      simp only [Act.put, List.setIfInBounds_toArray, List.set_cons_zero, List.set_cons_succ]
      refine seq_at (some 40) (v := ?_) rfl (by kernel_rfl) (by kernel_rfl) ?_ ?_
      rotate_left
      · intro w' hw'
        obtain ⟨⟨q0, q1⟩, q2, q3⟩ := U w' hw'
        go_simp
        try with_reducible rfl
      simp only [Act.put, List.setIfInBounds_toArray, List.set_cons_zero, List.set_cons_succ]
      refine seq_at (some 41) (v := ?_) rfl (by kernel_rfl) (by kernel_rfl) ?_ ?_
      rotate_left
      · intro w' hw'
        obtain ⟨⟨q0, q1⟩, q2, q3⟩ := U w' hw'
        go_simp
        try with_reducible rfl
      simp only [Act.put, List.setIfInBounds_toArray, List.set_cons_zero, List.set_cons_succ]
      refine seq_load_cells (some 42) rfl (by kernel_rfl) (by kernel_rfl) 67 (.tmp 41) rfl ⟨b, 0, none⟩ _ rfl L1 ?_
      simp only [Act.put, List.setIfInBounds_toArray, List.set_cons_zero, List.set_cons_succ]
      refine seq_at (some 43) (v := ?_) rfl (by kernel_rfl) (by kernel_rfl) ?_ ?_
      rotate_left
      · intro w' hw'
        go_simp
        try with_reducible rfl
      simp only [Act.put, List.setIfInBounds_toArray, List.set_cons_zero, List.set_cons_succ]
      refine seq_at (some 44) (v := ?_) rfl (by kernel_rfl) (by kernel_rfl) ?_ ?_
      rotate_left
      · intro w' hw'
        go_simp
        try with_reducible rfl
      simp only [Act.put, List.setIfInBounds_toArray, List.set_cons_zero, List.set_cons_succ]
      refine seq_at (some 45) (v := ?_) rfl (by kernel_rfl) (by kernel_rfl) ?_ ?_
      rotate_left
      · intro w' hw'
        go_simp
        try with_reducible rfl
      simp only [Act.put, List.setIfInBounds_toArray, List.set_cons_zero, List.set_cons_succ]
      refine seq_load_cells (some 46) rfl (by kernel_rfl) (by kernel_rfl) 67 (.tmp 45) rfl ⟨b', 0, none⟩ _ rfl L2 ?_
      simp only [Act.put, List.setIfInBounds_toArray, List.set_cons_zero, List.set_cons_succ]
      refine seq_at (some 47) (v := ?_) rfl (by kernel_rfl) (by kernel_rfl) ?_ ?_
      rotate_left
      · intro w' hw'
        go_simp
        try with_reducible rfl
      simp only [Act.put, List.setIfInBounds_toArray, List.set_cons_zero, List.set_cons_succ]
      refine seq_at (some 48) (v := ?_) rfl (by kernel_rfl) (by kernel_rfl) ?_ ?_
      rotate_left
      · intro w' hw'
        go_simp
        try with_reducible rfl
      simp only [Act.put, List.setIfInBounds_toArray, List.set_cons_zero, List.set_cons_succ]
      refine seq_at (some 4) (v := ?_) rfl (by kernel_rfl) (by kernel_rfl) ?_ ?_
      rotate_left
      · intro w' hw'
        go_simp
        try with_reducible rfl
      simp only [Act.put, List.setIfInBounds_toArray, List.set_cons_zero, List.set_cons_succ]
      refine seq_nil ?_
      go_wp2_with fail
      go_ret
      exact ⟨rfl, 1, rfl⟩
    · have hhb : ((S.hand : Int) == (S'.hand : Int)) = false := by simp; omega
      have HR := Lib.hid (psB_hand hh)
      clear h hS h' hS' hn hh L1 L2 heq
      go_enter Try.func13, Try.ntmps13
      go_wp2_with fail
      refine HT.out.mono ?_
      rintro e w' ⟨rfl, rfl⟩
      go_wp2_with fail
      refine HT'.out.mono ?_
      rintro e w' ⟨rfl, rfl⟩
      go_wp2_with fail
      refine wp_region_seq (fun _ => False) [] [(0, true), (1, true), (2, true), (3, true), (4, true), (5, true), (6, true), (7, true), (8, true), (9, true), (10, true), (11, true), (12, true), (13, true), (14, true), (15, true), (16, true), (17, true), (18, true), (19, true), (20, true), (21, true), (22, true), (23, true), (24, true), (25, true), (26, true), (27, true), (28, true), (29, true), (30, true), (31, true)] (by kernel_rfl) (by kernel_rfl) (fun _ _ d _ _ h => by cases d <;> exact h) rfl (by kernel_rfl) ?_
      refine seq_at (some 18) (v := ?_) rfl (by kernel_rfl) (by kernel_rfl) ?_ ?_
      rotate_left
      · intro w' hw'
        obtain ⟨⟨q0, q1⟩, q2, q3⟩ := U w' hw'
        go_simp
        try with_reducible rfl
      simp only [Act.put, List.setIfInBounds_toArray, List.set_cons_zero, List.set_cons_succ]
      refine seq_at (some 19) (v := ?_) rfl (by kernel_rfl) (by kernel_rfl) ?_ ?_
      rotate_left
      · intro w' hw'
        obtain ⟨⟨q0, q1⟩, q2, q3⟩ := U w' hw'
        go_simp
        try with_reducible rfl
      simp only [Act.put, List.setIfInBounds_toArray, List.set_cons_zero, List.set_cons_succ]
      refine seq_at (some 20) (v := ?_) rfl (by kernel_rfl) (by kernel_rfl) ?_ ?_
      rotate_left
      · intro w' hw'
        obtain ⟨⟨q0, q1⟩, q2, q3⟩ := U w' hw'
        go_simp
        try with_reducible rfl
      simp only [Act.put, List.setIfInBounds_toArray, List.set_cons_zero, List.set_cons_succ]
      refine seq_at (some 21) (v := ?_) rfl (by kernel_rfl) (by kernel_rfl) ?_ ?_
      rotate_left
      · intro w' hw'
        obtain ⟨⟨q0, q1⟩, q2, q3⟩ := U w' hw'
        go_simp
        try with_reducible rfl
      simp only [Act.put, List.setIfInBounds_toArray, List.set_cons_zero, List.set_cons_succ]
      refine seq_at (some 22) (v := ?_) rfl (by kernel_rfl) (by kernel_rfl) ?_ ?_
      rotate_left
      · intro w' hw'
        obtain ⟨⟨q0, q1⟩, q2, q3⟩ := U w' hw'
        go_simp
        try with_reducible rfl
      simp only [Act.put, List.setIfInBounds_toArray, List.set_cons_zero, List.set_cons_succ]
      refine seq_at (some 23) (v := ?_) rfl (by kernel_rfl) (by kernel_rfl) ?_ ?_
      rotate_left
      · intro w' hw'
        obtain ⟨⟨q0, q1⟩, q2, q3⟩ := U w' hw'
        go_simp
        try with_reducible rfl
      simp only [Act.put, List.setIfInBounds_toArray, List.set_cons_zero, List.set_cons_succ]
      refine seq_at (some 24) (v := ?_) rfl (by kernel_rfl) (by kernel_rfl) ?_ ?_
      rotate_left
      · intro w' hw'
        obtain ⟨⟨q0, q1⟩, q2, q3⟩ := U w' hw'
        go_simp
        try with_reducible rfl
      simp only [Act.put, List.setIfInBounds_toArray, List.set_cons_zero, List.set_cons_succ]
      refine seq_at (some 25) (v := ?_) rfl (by kernel_rfl) (by kernel_rfl) ?_ ?_
      rotate_left
      · intro w' hw'
        obtain ⟨⟨q0, q1⟩, q2, q3⟩ := U w' hw'
        go_simp
        try with_reducible rfl
      simp only [Act.put, List.setIfInBounds_toArray, List.set_cons_zero, List.set_cons_succ]
      refine seq_at (some 26) (v := ?_) rfl (by kernel_rfl) (by kernel_rfl) ?_ ?_
      rotate_left
      · intro w' hw'
        obtain ⟨⟨q0, q1⟩, q2, q3⟩ := U w' hw'
        go_simp
        try with_reducible rfl
      simp only [Act.put, List.setIfInBounds_toArray, List.set_cons_zero, List.set_cons_succ]
      refine seq_at (some 27) (v := ?_) rfl (by kernel_rfl) (by kernel_rfl) ?_ ?_
      rotate_left
      · intro w' hw'
        obtain ⟨⟨q0, q1⟩, q2, q3⟩ := U w' hw'
        go_simp
        try with_reducible rfl
      simp only [Act.put, List.setIfInBounds_toArray, List.set_cons_zero, List.set_cons_succ]
      refine seq_at (some 28) (v := ?_) rfl (by kernel_rfl) (by kernel_rfl) ?_ ?_
      rotate_left
      · intro w' hw'
        obtain ⟨⟨q0, q1⟩, q2, q3⟩ := U w' hw'
        go_simp
        try with_reducible rfl
      simp only [Act.put, List.setIfInBounds_toArray, List.set_cons_zero, List.set_cons_succ]
      refine seq_at (some 29) (v := ?_) rfl (by kernel_rfl) (by kernel_rfl) ?_ ?_
      rotate_left
      · intro w' hw'
        obtain ⟨⟨q0, q1⟩, q2, q3⟩ := U w' hw'
        go_simp
        try with_reducible rfl
      simp only [Act.put, List.setIfInBounds_toArray, List.set_cons_zero, List.set_cons_succ]
      refine seq_at (some 30) (v := ?_) rfl (by kernel_rfl) (by kernel_rfl) ?_ ?_
      rotate_left
      · intro w' hw'
        obtain ⟨⟨q0, q1⟩, q2, q3⟩ := U w' hw'
        go_simp
        try with_reducible rfl
      simp only [Act.put, List.setIfInBounds_toArray, List.set_cons_zero, List.set_cons_succ]
      refine seq_at (some 31) (v := ?_) rfl (by kernel_rfl) (by kernel_rfl) ?_ ?_
      rotate_left
      · intro w' hw'
        obtain ⟨⟨q0, q1⟩, q2, q3⟩ := U w' hw'
        go_simp
        try with_reducible rfl
      simp only [Act.put, List.setIfInBounds_toArray, List.set_cons_zero, List.set_cons_succ]
      refine seq_at (some 32) (v := ?_) rfl (by kernel_rfl) (by kernel_rfl) ?_ ?_
      rotate_left
      · intro w' hw'
        obtain ⟨⟨q0, q1⟩, q2, q3⟩ := U w' hw'
        go_simp
        try with_reducible rfl
      simp only [Act.put, List.setIfInBounds_toArray, List.set_cons_zero, List.set_cons_succ]
      refine seq_at (some 33) (v := ?_) rfl (by kernel_rfl) (by kernel_rfl) ?_ ?_
      rotate_left
      · intro w' hw'
        obtain ⟨⟨q0, q1⟩, q2, q3⟩ := U w' hw'
        go_simp
        try with_reducible rfl
      simp only [Act.put, List.setIfInBounds_toArray, List.set_cons_zero, List.set_cons_succ]
      refine seq_at (some 34) (v := ?_) rfl (by kernel_rfl) (by kernel_rfl) ?_ ?_
      rotate_left
      · intro w' hw'
        obtain ⟨⟨q0, q1⟩, q2, q3⟩ := U w' hw'
        go_simp
        try with_reducible rfl
      simp only [Act.put, List.setIfInBounds_toArray, List.set_cons_zero, List.set_cons_succ]
      refine seq_at (some 35) (v := ?_) rfl (by kernel_rfl) (by kernel_rfl) ?_ ?_
      rotate_left
      · intro w' hw'
        obtain ⟨⟨q0, q1⟩, q2, q3⟩ := U w' hw'
        go_simp
        try with_reducible rfl
      simp only [Act.put, List.setIfInBounds_toArray, List.set_cons_zero, List.set_cons_succ]
      refine seq_at (some 36) (v := ?_) rfl (by kernel_rfl) (by kernel_rfl) ?_ ?_
      rotate_left
      · intro w' hw'
        obtain ⟨⟨q0, q1⟩, q2, q3⟩ := U w' hw'
        go_simp
        try with_reducible rfl
      simp only [Act.put, List.setIfInBounds_toArray, List.set_cons_zero, List.set_cons_succ]
      refine seq_at (some 37) (v := ?_) rfl (by kernel_rfl) (by kernel_rfl) ?_ ?_
      rotate_left
      · intro w' hw'
        obtain ⟨⟨q0, q1⟩, q2, q3⟩ := U w' hw'
        go_simp
        try with_reducible rfl
      simp only [Act.put, List.setIfInBounds_toArray, List.set_cons_zero, List.set_cons_succ]
      refine seq_at (some 38) (v := ?_) rfl (by kernel_rfl) (by kernel_rfl) ?_ ?_
      rotate_left
      · intro w' hw'
        obtain ⟨⟨q0, q1⟩, q2, q3⟩ := U w' hw'
        go_simp
        try with_reducible rfl
      simp only [Act.put, List.setIfInBounds_toArray, List.set_cons_zero, List.set_cons_succ]
      refine seq_skip (some 39) rfl (by kernel_rfl) (by kernel_rfl) ?_
      simp only [Act.put, List.setIfInBounds_toArray, List.set_cons_zero, List.set_cons_succ]
      refine seq_skip (some 40) rfl (by kernel_rfl) (by kernel_rfl) ?_
      simp only [Act.put, List.setIfInBounds_toArray, List.set_cons_zero, List.set_cons_succ]
      refine seq_skip (some 41) rfl (by kernel_rfl) (by kernel_rfl) ?_
      simp only [Act.put, List.setIfInBounds_toArray, List.set_cons_zero, List.set_cons_succ]
      refine seq_skip (some 42) rfl (by kernel_rfl) (by kernel_rfl) ?_
      simp only [Act.put, List.setIfInBounds_toArray, List.set_cons_zero, List.set_cons_succ]
      refine seq_skip (some 43) rfl (by kernel_rfl) (by kernel_rfl) ?_
      simp only [Act.put, List.setIfInBounds_toArray, List.set_cons_zero, List.set_cons_succ]
      refine seq_skip (some 44) rfl (by kernel_rfl) (by kernel_rfl) ?_
      simp only [Act.put, List.setIfInBounds_toArray, List.set_cons_zero, List.set_cons_succ]
      refine seq_skip (some 45) rfl (by kernel_rfl) (by kernel_rfl) ?_
      simp only [Act.put, List.setIfInBounds_toArray, List.set_cons_zero, List.set_cons_succ]
      refine seq_skip (some 46) rfl (by kernel_rfl) (by kernel_rfl) ?_
      simp only [Act.put, List.setIfInBounds_toArray, List.set_cons_zero, List.set_cons_succ]
      refine seq_skip (some 47) rfl (by kernel_rfl) (by kernel_rfl) ?_
      simp only [Act.put, List.setIfInBounds_toArray, List.set_cons_zero, List.set_cons_succ]
      refine seq_at (some 48) (v := ?_) rfl (by kernel_rfl) (by kernel_rfl) ?_ ?_
      rotate_left
      · intro w' hw'
        go_simp
        try with_reducible rfl
      simp only [Act.put, List.setIfInBounds_toArray, List.set_cons_zero, List.set_cons_succ]
      refine seq_at (some 4) (v := ?_) rfl (by kernel_rfl) (by kernel_rfl) ?_ ?_
      rotate_left
      · intro w' hw'
        go_simp
        try with_reducible rfl
      simp only [Act.put, List.setIfInBounds_toArray, List.set_cons_zero, List.set_cons_succ]
      refine seq_nil ?_
      go_wp2_with fail
      go_ret
      exact ⟨by rw [HR.out]; rfl, 1, rfl⟩
  · have hnb : ((S.s.length : Int) == (S'.s.length : Int)) = false := by simp; omega
    have HR := Lib.hid (psB_len hn)
    clear h hS h' hS' hn L1 L2 heq
    go_enter Try.func13, Try.ntmps13
    go_wp2_with fail
    refine HT.out.mono ?_
    rintro e w' ⟨rfl, rfl⟩
    go_wp2_with fail
    refine HT'.out.mono ?_
    rintro e w' ⟨rfl, rfl⟩
    go_wp2_with fail
    refine wp_region_seq (fun _ => False) [] [(0, true), (1, true), (2, true), (3, true), (4, true), (5, true), (6, true), (7, true), (8, true), (9, true), (10, true), (11, true), (12, true), (13, true), (14, true), (15, true), (16, true), (17, true), (18, true), (19, true), (20, true), (21, true), (22, true), (23, true), (24, true), (25, true), (26, true), (27, true), (28, true), (29, true), (30, true), (31, true)] (by kernel_rfl) (by kernel_rfl) (fun _ _ d _ _ h => by cases d <;> exact h) rfl (by kernel_rfl) ?_
    refine seq_at (some 18) (v := ?_) rfl (by kernel_rfl) (by kernel_rfl) ?_ ?_
    rotate_left
    · intro w' hw'
      obtain ⟨⟨q0, q1⟩, q2, q3⟩ := U w' hw'
      go_simp
      try with_reducible rfl
    simp only [Act.put, List.setIfInBounds_toArray, List.set_cons_zero, List.set_cons_succ]
    refine seq_at (some 19) (v := ?_) rfl (by kernel_rfl) (by kernel_rfl) ?_ ?_
    rotate_left
    · intro w' hw'
      obtain ⟨⟨q0, q1⟩, q2, q3⟩ := U w' hw'
      go_simp
      try with_reducible rfl
    simp only [Act.put, List.setIfInBounds_toArray, List.set_cons_zero, List.set_cons_succ]
    refine seq_at (some 20) (v := ?_) rfl (by kernel_rfl) (by kernel_rfl) ?_ ?_
    rotate_left
    · intro w' hw'
      obtain ⟨⟨q0, q1⟩, q2, q3⟩ := U w' hw'
      go_simp
      try with_reducible rfl
    simp only [Act.put, List.setIfInBounds_toArray, List.set_cons_zero, List.set_cons_succ]
    refine seq_at (some 21) (v := ?_) rfl (by kernel_rfl) (by kernel_rfl) ?_ ?_
    rotate_left
    · intro w' hw'
      obtain ⟨⟨q0, q1⟩, q2, q3⟩ := U w' hw'
      go_simp
      try with_reducible rfl
    simp only [Act.put, List.setIfInBounds_toArray, List.set_cons_zero, List.set_cons_succ]
    refine seq_at (some 22) (v := ?_) rfl (by kernel_rfl) (by kernel_rfl) ?_ ?_
    rotate_left
    · intro w' hw'
      obtain ⟨⟨q0, q1⟩, q2, q3⟩ := U w' hw'
      go_simp
      try with_reducible rfl
    simp only [Act.put, List.setIfInBounds_toArray, List.set_cons_zero, List.set_cons_succ]
    refine seq_at (some 23) (v := ?_) rfl (by kernel_rfl) (by kernel_rfl) ?_ ?_
    rotate_left
    · intro w' hw'
      obtain ⟨⟨q0, q1⟩, q2, q3⟩ := U w' hw'
      go_simp
      try with_reducible rfl
    simp only [Act.put, List.setIfInBounds_toArray, List.set_cons_zero, List.set_cons_succ]
    refine seq_at (some 24) (v := ?_) rfl (by kernel_rfl) (by kernel_rfl) ?_ ?_
    rotate_left
    · intro w' hw'
      obtain ⟨⟨q0, q1⟩, q2, q3⟩ := U w' hw'
      go_simp
      try with_reducible rfl
    simp only [Act.put, List.setIfInBounds_toArray, List.set_cons_zero, List.set_cons_succ]
    refine seq_at (some 25) (v := ?_) rfl (by kernel_rfl) (by kernel_rfl) ?_ ?_
    rotate_left
    · intro w' hw'
      obtain ⟨⟨q0, q1⟩, q2, q3⟩ := U w' hw'
      go_simp
      try with_reducible rfl
    simp only [Act.put, List.setIfInBounds_toArray, List.set_cons_zero, List.set_cons_succ]
    refine seq_at (some 26) (v := ?_) rfl (by kernel_rfl) (by kernel_rfl) ?_ ?_
    rotate_left
    · intro w' hw'
      obtain ⟨⟨q0, q1⟩, q2, q3⟩ := U w' hw'
      go_simp
      try with_reducible rfl
    simp only [Act.put, List.setIfInBounds_toArray, List.set_cons_zero, List.set_cons_succ]
    refine seq_at (some 27) (v := ?_) rfl (by kernel_rfl) (by kernel_rfl) ?_ ?_
    rotate_left
    · intro w' hw'
      obtain ⟨⟨q0, q1⟩, q2, q3⟩ := U w' hw'
      go_simp
      try with_reducible rfl
    simp only [Act.put, List.setIfInBounds_toArray, List.set_cons_zero, List.set_cons_succ]
    refine seq_skip (some 28) rfl (by kernel_rfl) (by kernel_rfl) ?_
    simp only [Act.put, List.setIfInBounds_toArray, List.set_cons_zero, List.set_cons_succ]
    refine seq_skip (some 29) rfl (by kernel_rfl) (by kernel_rfl) ?_
    simp only [Act.put, List.setIfInBounds_toArray, List.set_cons_zero, List.set_cons_succ]
    refine seq_skip (some 30) rfl (by kernel_rfl) (by kernel_rfl) ?_
    simp only [Act.put, List.setIfInBounds_toArray, List.set_cons_zero, List.set_cons_succ]
    refine seq_skip (some 31) rfl (by kernel_rfl) (by kernel_rfl) ?_
    simp only [Act.put, List.setIfInBounds_toArray, List.set_cons_zero, List.set_cons_succ]
    refine seq_skip (some 32) rfl (by kernel_rfl) (by kernel_rfl) ?_
    simp only [Act.put, List.setIfInBounds_toArray, List.set_cons_zero, List.set_cons_succ]
    refine seq_skip (some 33) rfl (by kernel_rfl) (by kernel_rfl) ?_
    simp only [Act.put, List.setIfInBounds_toArray, List.set_cons_zero, List.set_cons_succ]
    refine seq_skip (some 34) rfl (by kernel_rfl) (by kernel_rfl) ?_
    simp only [Act.put, List.setIfInBounds_toArray, List.set_cons_zero, List.set_cons_succ]
    refine seq_skip (some 35) rfl (by kernel_rfl) (by kernel_rfl) ?_
    simp only [Act.put, List.setIfInBounds_toArray, List.set_cons_zero, List.set_cons_succ]
    refine seq_skip (some 36) rfl (by kernel_rfl) (by kernel_rfl) ?_
    simp only [Act.put, List.setIfInBounds_toArray, List.set_cons_zero, List.set_cons_succ]
    refine seq_at (some 37) (v := ?_) rfl (by kernel_rfl) (by kernel_rfl) ?_ ?_
    rotate_left
    · intro w' hw'
      go_simp
      try with_reducible rfl
    simp only [Act.put, List.setIfInBounds_toArray, List.set_cons_zero, List.set_cons_succ]
    refine seq_at (some 38) (v := ?_) rfl (by kernel_rfl) (by kernel_rfl) ?_ ?_
    rotate_left
    · intro w' hw'
      go_simp
      try with_reducible rfl
    simp only [Act.put, List.setIfInBounds_toArray, List.set_cons_zero, List.set_cons_succ]
    refine seq_skip (some 39) rfl (by kernel_rfl) (by kernel_rfl) ?_
    simp only [Act.put, List.setIfInBounds_toArray, List.set_cons_zero, List.set_cons_succ]
    refine seq_skip (some 40) rfl (by kernel_rfl) (by kernel_rfl) ?_
    simp only [Act.put, List.setIfInBounds_toArray, List.set_cons_zero, List.set_cons_succ]
    refine seq_skip (some 41) rfl (by kernel_rfl) (by kernel_rfl) ?_
    simp only [Act.put, List.setIfInBounds_toArray, List.set_cons_zero, List.set_cons_succ]
    refine seq_skip (some 42) rfl (by kernel_rfl) (by kernel_rfl) ?_
    simp only [Act.put, List.setIfInBounds_toArray, List.set_cons_zero, List.set_cons_succ]
    refine seq_skip (some 43) rfl (by kernel_rfl) (by kernel_rfl) ?_
    simp only [Act.put, List.setIfInBounds_toArray, List.set_cons_zero, List.set_cons_succ]
    refine seq_skip (some 44) rfl (by kernel_rfl) (by kernel_rfl) ?_
    simp only [Act.put, List.setIfInBounds_toArray, List.set_cons_zero, List.set_cons_succ]
    refine seq_skip (some 45) rfl (by kernel_rfl) (by kernel_rfl) ?_
    simp only [Act.put, List.setIfInBounds_toArray, List.set_cons_zero, List.set_cons_succ]
    refine seq_skip (some 46) rfl (by kernel_rfl) (by kernel_rfl) ?_
    simp only [Act.put, List.setIfInBounds_toArray, List.set_cons_zero, List.set_cons_succ]
    refine seq_skip (some 47) rfl (by kernel_rfl) (by kernel_rfl) ?_
    simp only [Act.put, List.setIfInBounds_toArray, List.set_cons_zero, List.set_cons_succ]
    refine seq_at (some 48) (v := ?_) rfl (by kernel_rfl) (by kernel_rfl) ?_ ?_
    rotate_left
    · intro w' hw'
      go_simp
      try with_reducible rfl
    simp only [Act.put, List.setIfInBounds_toArray, List.set_cons_zero, List.set_cons_succ]
    refine seq_at (some 4) (v := ?_) rfl (by kernel_rfl) (by kernel_rfl) ?_ ?_
    rotate_left
    · intro w' hw'
      go_simp
      try with_reducible rfl
    simp only [Act.put, List.setIfInBounds_toArray, List.set_cons_zero, List.set_cons_succ]
    refine seq_nil ?_
    go_wp2_with fail
    go_ret
    exact ⟨by rw [HR.out]; rfl, 1, rfl⟩

/-! ### pools that are not there -/
end Go.Proofs.Ytjbjfpbhacpeiaa
