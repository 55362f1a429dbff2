/- Contract of the law MessageKinds: it returns true for any kind, left anywhere. -/
import Derived.Test.YtemmdlanidepbaaDoorKd4
namespace Go.Proofs.YtemmdlanidepbaaDoor
open Go.RowKit Go.Shelf
set_option linter.unusedSimpArgs false
set_option linter.unusedVariables false
set_option maxRecDepth 100000
attribute [local go_sem] Oper.semAt_some

theorem nameOf_out {k : Int} (h : ¬ (1 ≤ k ∧ k ≤ 13)) : nameOf k = ⟨#[]⟩ := by unfold nameOf; repeat (rw [if_neg (by omega)])
set_option maxHeartbeats 8000000 in
theorem kinds_law (k leave : Int) (hk : I64 k) (hl : I64 leave) (w : World) : Calls Tryd.prog 5 #[.int .i64 k, .int .i64 leave] w (fun e w' => e = .returned (.bool true) ∧ Below w.heap.size w w') := by
  refine (callsIn_wide (n := 5)).1 ?_
  refine callsIn_of_wp_marks Tryd.func5 rfl trivial ?_ rfl
  simp only [Tryd.ntmps5, List.size_toArray, List.length_cons, List.length_nil, Nat.reduceAdd, Nat.reduceSub, Array.replicate_succ, Array.replicate_zero, List.push_toArray, List.append_toArray, List.nil_append, List.cons_append]
  gi_upto_region 3 with (refine ⟨trivial, ?_⟩; gi_at_call 17; refine (callsIn_wide.2 (names18_any _)).mono ?_; rintro e w1 ⟨rfl, rfl⟩)
  rename_i Q KT hKT KC hKC
  have B3 := (((Boxed.new w 3 (.int .i64 leave)).alloc (.cells #[.bool false] 4)).alloc (.cells nmc 9)).alloc (.cells #[.slice (some ⟨w.heap.size + 1 + 1, 0, none⟩) 13 13] 41)
  have B4 := ((Boxed.new (w.alloc (.cells #[.int .i64 leave] 3)) 4 (.bool false)).alloc (.cells nmc 9)).alloc (.cells #[.slice (some ⟨w.heap.size + 1 + 1, 0, none⟩) 13 13] 41)
  have BN : ((((w.alloc (.cells #[.int .i64 leave] 3)).alloc (.cells #[.bool false] 4)).alloc (.cells nmc 9)).alloc (.cells #[.slice (some ⟨w.heap.size + 1 + 1, 0, none⟩) 13 13] 41)).heap[w.heap.size + 1 + 1]? = some (.cells nmc 9 (0, 0)) := by
    refine (Below.heap_alloc _ _ _ (by simp)).trans ?_
    have := heap_alloc_new ((w.alloc (.cells #[.int .i64 leave] 3)).alloc (.cells #[.bool false] 4)) (.cells nmc 9)
    rwa [World.size_alloc, World.size_alloc] at this
  have B5 := Boxed.new (((w.alloc (.cells #[.int .i64 leave] 3)).alloc (.cells #[.bool false] 4)).alloc (.cells nmc 9)) 41 (.slice (some ⟨w.heap.size + 1 + 1, 0, none⟩) 13 13)
  rw [World.size_alloc, World.size_alloc, World.size_alloc] at B5
  rw [World.size_alloc] at B4
  have HB : Below w.heap.size w ((((w.alloc (.cells #[.int .i64 leave] 3)).alloc (.cells #[.bool false] 4)).alloc (.cells nmc 9)).alloc (.cells #[.slice (some ⟨w.heap.size + 1 + 1, 0, none⟩) 13 13] 41)) :=
    ((((Below.refl _ w).alloc (Nat.le_refl _) _).alloc (by simp) _).alloc (by simp; omega) _).alloc (by simp; omega) _
  have c5 := B5.cell
  generalize (((w.alloc (.cells #[.int .i64 leave] 3)).alloc (.cells #[.bool false] 4)).alloc (.cells nmc 9)).alloc (.cells #[.slice (some ⟨w.heap.size + 1 + 1, 0, none⟩) 13 13] 41) = W at *
  have cN : ∀ j : Nat, j < 13 → W.cell? ⟨w.heap.size + 1 + 1, j, none⟩ = some (.string (nameOf ((j : Int) + 1))) := fun j hj => by simp [World.cell?, BN, nmc_get j hj]
  have HKT := Lib.hid hKT
  clear hKT
  by_cases h : 1 ≤ k ∧ k ≤ 13
  · obtain ⟨h1, h2⟩ := h
    obtain ⟨j, hj⟩ : ∃ j : Nat, (j : Int) + 1 = k := ⟨(k - 1).toNat, by omega⟩
    have hw : IntKind.i64.wrap (k - 1) = (j : Int) := by rw [IntWalk.i64_in _ (by omega)]; omega
    have hj13 : j < 13 := by omega
    have cj := cN j hj13
    rw [hj] at cj
    clear cN hj
    gi_wp2
    exact HKT.out _ _ (kinds_tail 5 (by omega) w.heap.size (w.heap.size + 1) (w.heap.size + 1 + 1 + 1) (w.heap.size + 1 + 1) w.heap.size k leave hk w W HB (by omega) B3.lt B4.lt B5.lt (Array.getElem?_eq_some_iff.1 BN).1 (by omega) (by omega) (by omega) B3.cell hl B4 B5.cell BN _ _ _ _ _ _ _ _ _ _ _ _ _ _ _ _ _ _ _ _ _ _ _ _ _ _ _ _ _ _ _ _ _ _ _ _ _ _ _ _ _ _ _ _ _ _ _ _ _ _ _ _ _ _ _ _ _ _ _ _ _ _ _ _ _ _ _ _ _ _ _ _ _ _ _ _ _ _ _ _ _ _ _ _ _ _ _ _ _ _ _ _ _ _ _ _ _ _ _ _ _ _ _ _ _ _ _ _ _ _ _ _ _ _ _)
  · rw [← nameOf_out h]
    have h1 : k < 1 ∨ 13 < k := by omega
    clear cN
    rcases h1 with h1 | h1
    · gi_wp2
      exact HKT.out _ _ (kinds_tail 5 (by omega) w.heap.size (w.heap.size + 1) (w.heap.size + 1 + 1 + 1) (w.heap.size + 1 + 1) w.heap.size k leave hk w W HB (by omega) B3.lt B4.lt B5.lt (Array.getElem?_eq_some_iff.1 BN).1 (by omega) (by omega) (by omega) B3.cell hl B4 B5.cell BN _ _ _ _ _ _ _ _ _ _ _ _ _ _ _ _ _ _ _ _ _ _ _ _ _ _ _ _ _ _ _ _ _ _ _ _ _ _ _ _ _ _ _ _ _ _ _ _ _ _ _ _ _ _ _ _ _ _ _ _ _ _ _ _ _ _ _ _ _ _ _ _ _ _ _ _ _ _ _ _ _ _ _ _ _ _ _ _ _ _ _ _ _ _ _ _ _ _ _ _ _ _ _ _ _ _ _ _ _ _ _ _ _ _ _)
    · gi_wp2
      exact HKT.out _ _ (kinds_tail 5 (by omega) w.heap.size (w.heap.size + 1) (w.heap.size + 1 + 1 + 1) (w.heap.size + 1 + 1) w.heap.size k leave hk w W HB (by omega) B3.lt B4.lt B5.lt (Array.getElem?_eq_some_iff.1 BN).1 (by omega) (by omega) (by omega) B3.cell hl B4 B5.cell BN _ _ _ _ _ _ _ _ _ _ _ _ _ _ _ _ _ _ _ _ _ _ _ _ _ _ _ _ _ _ _ _ _ _ _ _ _ _ _ _ _ _ _ _ _ _ _ _ _ _ _ _ _ _ _ _ _ _ _ _ _ _ _ _ _ _ _ _ _ _ _ _ _ _ _ _ _ _ _ _ _ _ _ _ _ _ _ _ _ _ _ _ _ _ _ _ _ _ _ _ _ _ _ _ _ _ _ _ _ _ _ _ _ _ _)
end Go.Proofs.YtemmdlanidepbaaDoor
