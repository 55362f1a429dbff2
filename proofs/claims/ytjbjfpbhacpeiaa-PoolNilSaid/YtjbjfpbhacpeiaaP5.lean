/- Contracts of the pool's may and of the document's May. -/
import Derived.Test.YtjbjfpbhacpeiaaPe
import Derived.BigFrame
namespace Go.Proofs.Ytjbjfpbhacpeiaa
open Go.RowKit
set_option linter.unusedSimpArgs false
set_option linter.unusedVariables false
set_option maxRecDepth 100000

theorem within_any (n most : Int) (w : World) : Calls Try.prog 48 #[.int .i64 n, .int .i64 most] w (fun e w' => e = .returned (.bool (decide (0 ≤ n) && decide (n ≤ most))) ∧ w = w') := by
  by_cases h1 : 0 ≤ n
  · by_cases h2 : n ≤ most
    · go_enter Try.func48, Try.ntmps48
      go_wp2_with fail
      go_ret
      exact ⟨by simp [h1, h2], rfl⟩
    · go_enter Try.func48, Try.ntmps48
      go_wp2_with fail
      go_ret
      exact ⟨by simp [h1, h2], rfl⟩
  · go_enter Try.func48, Try.ntmps48
    go_wp2_with fail
    go_ret
    exact ⟨by simp; omega, rfl⟩
theorem wpList_load_body {P : Program} {ops : Array Oper} {rest : List Oper} {o : Oper} {a : Act} {w : World} {Q : Exit → Act → World → Prop} (hw : Region.wanted o (yielded ops a.tmps) = true) (x : Operand) (ho : o.op = .load 35 x) (p : Addr) (hx : a.eval x = .pointer (some p)) (cs : Array Value)
    (hrun : (loadVar 35 p).run P w = .ok (.agg cs) w) (h : wpList P ops Q rest (a.put o.dst (.agg cs)) w) : wpList P ops Q (o :: rest) a w :=
  BigFrame.wpList_want hw fun _ hK => wp_load_cells 35 x ho p hx cs hrun (hK _ _ h)
theorem zbo (w : World) : (zeroValue 35).run Try.prog w = .ok (.agg noBody) w := by kernel_rfl
set_option maxHeartbeats 8000000 in
theorem may_any (f : Fr) (hf : f.Ok) (w : World) : Calls Try.prog 43 #[.agg (fA f)] w (fun e w' => e = .returned (.bool (mayF f)) ∧ Below w.heap.size w w') := by
  have hC : FCells (w.alloc (.cells (fA f) 39)) w.heap.size f := ⟨heap_alloc_new w _⟩
  have HB : Hid (Below w.heap.size w (w.alloc (.cells (fA f) 39))) := Lib.hid ((Below.refl _ _).alloc (Nat.le_refl _) _)
  obtain ⟨c0, c1, c2, c3, c4⟩ := hC.c hf
  have HY := Lib.hid (hC.bodyAt hf)
  have hz := zbo
  have bq := body_eq
  clear hC
  obtain ⟨A, hA⟩ : ∃ A, (decide (0 ≤ f.page) && decide (f.page ≤ 15)) = A := ⟨_, rfl⟩
  obtain ⟨O, hO⟩ : ∃ A, (decide (0 ≤ f.op) && decide (f.op ≤ 4611686018427387904)) = A := ⟨_, rfl⟩
  obtain ⟨I, hI⟩ : ∃ A, (decide (0 ≤ f.first) && decide (f.first ≤ 2147483647)) = A := ⟨_, rfl⟩
  obtain ⟨Q, hQ⟩ : ∃ A, (decide (0 ≤ f.psn) && decide (f.psn ≤ 2147483647)) = A := ⟨_, rfl⟩
  obtain ⟨Z, hZ⟩ : ∃ A, decide (f.body = List.replicate 96 0) = A := ⟨_, rfl⟩
  have hm : mayF f = (A && (f.mode == 1 || f.mode == 2) && O && I && Q && (decide (0 < f.psn) || Z)) := by
    rw [← hA, ← hO, ← hI, ← hQ, ← hZ]
    simp [mayF, Bool.and_assoc]
  have HA := within_any f.page 15
  have HO := within_any f.op 4611686018427387904
  have HI := within_any f.first 2147483647
  have HQ := within_any f.psn 2147483647
  rw [hA] at HA
  rw [hO] at HO
  rw [hI] at HI
  rw [hQ] at HQ
  have bz := body_eq
  have HZ : Hid (∀ u, (Op.equalIn 10000 35 (.agg (bodyV f.body)) (.agg noBody)).run Try.prog u = .ok Z u) := Lib.hid (fun u => by rw [noBody_eq, body_eq u _ _ hf.body (by simp), hZ])
  have HQ' := Lib.hid hQ
  rw [hm]
  clear hm hA hO hI hQ hZ bq bz
  have HW1 := Lib.hid HA
  have HW2 := Lib.hid HO
  have HW3 := Lib.hid HI
  have HW4 := Lib.hid HQ
  clear HA HO HI HQ
  clear hz
  cases A
  case false =>
    go_enter Try.func43, Try.ntmps43
    go_wp2_with fail
    refine (HW1.out _).mono ?_
    rintro e w' ⟨rfl, rfl⟩
    go_wp2_with fail
    go_ret
    exact ⟨by simp, HB.out⟩
  case true =>
    -- MODES
    have hmode : (f.mode != 1) = false ∨ ((f.mode != 1) = true ∧ ((f.mode != 2) = false ∨ (f.mode != 2) = true)) := by
      cases (f.mode != 1) <;> cases (f.mode != 2) <;> simp
    rcases hmode with k1 | ⟨k1, k2 | k2⟩
    · have KM : Hid ((f.mode == 1 || f.mode == 2) = true) := Lib.hid (by simp at k1; simp [k1])
      by_cases z0 : f.psn = 0
      · have k3 : (f.psn == 0) = true := by simp [z0]
        have K0 : Hid (f.psn = 0) := Lib.hid z0
        clear z0
        go_enter Try.func43, Try.ntmps43
        go_wp2_with fail
        refine (HW1.out _).mono ?_
        rintro e w' ⟨rfl, rfl⟩
        have hz := zbo
        have bq := HZ.out
        cases Z
        case false =>
          go_wp2_with (refine wpList_load_body (by kernel_rfl) (.tmp 27) rfl ⟨w.heap.size, 5, none⟩ rfl (bodyV f.body) (body_load hf.body HY.out) ?_)
          go_ret
          exact ⟨by simp [K0.out], HB.out⟩
        case true =>
          go_wp2_with (refine wpList_load_body (by kernel_rfl) (.tmp 27) rfl ⟨w.heap.size, 5, none⟩ rfl (bodyV f.body) (body_load hf.body HY.out) ?_)
          refine (HW2.out _).mono ?_
          rintro e w' ⟨rfl, rfl⟩
          cases O
          case false =>
            go_wp2_with fail
            go_ret
            exact ⟨by simp, HB.out⟩
          case true =>
            go_wp2_with fail
            refine (HW3.out _).mono ?_
            rintro e w' ⟨rfl, rfl⟩
            cases I
            case false =>
              go_wp2_with fail
              go_ret
              exact ⟨by simp, HB.out⟩
            case true =>
              go_wp2_with fail
              refine (HW4.out _).mono ?_
              rintro e w' ⟨rfl, rfl⟩
              go_wp2_with fail
              go_ret
              exact ⟨by simp [KM.out, K0.out], HB.out⟩
      · have k3 : (f.psn == 0) = false := by simp [z0]
        have HN := Lib.hid z0
        clear z0
        go_enter Try.func43, Try.ntmps43
        go_wp2_with fail
        refine (HW1.out _).mono ?_
        rintro e w' ⟨rfl, rfl⟩
        go_wp2_with fail
        refine (HW2.out _).mono ?_
        rintro e w' ⟨rfl, rfl⟩
        cases O
        case false =>
          go_wp2_with fail
          go_ret
          exact ⟨by simp, HB.out⟩
        case true =>
          go_wp2_with fail
          refine (HW3.out _).mono ?_
          rintro e w' ⟨rfl, rfl⟩
          cases I
          case false =>
            go_wp2_with fail
            go_ret
            exact ⟨by simp, HB.out⟩
          case true =>
            go_wp2_with fail
            refine (HW4.out _).mono ?_
            rintro e w' ⟨rfl, rfl⟩
            go_wp2_with fail
            go_ret
            exact ⟨by have h1 := HN.out; have h2 := HQ'.out; rw [← h2]; simp only [KM.out]; simp; omega, HB.out⟩
    · have KM : Hid ((f.mode == 1 || f.mode == 2) = true) := Lib.hid (by simp at k2; simp [k2])
      by_cases z0 : f.psn = 0
      · have k3 : (f.psn == 0) = true := by simp [z0]
        have K0 : Hid (f.psn = 0) := Lib.hid z0
        clear z0
        go_enter Try.func43, Try.ntmps43
        go_wp2_with fail
        refine (HW1.out _).mono ?_
        rintro e w' ⟨rfl, rfl⟩
        have hz := zbo
        have bq := HZ.out
        cases Z
        case false =>
          go_wp2_with (refine wpList_load_body (by kernel_rfl) (.tmp 27) rfl ⟨w.heap.size, 5, none⟩ rfl (bodyV f.body) (body_load hf.body HY.out) ?_)
          go_ret
          exact ⟨by simp [K0.out], HB.out⟩
        case true =>
          go_wp2_with (refine wpList_load_body (by kernel_rfl) (.tmp 27) rfl ⟨w.heap.size, 5, none⟩ rfl (bodyV f.body) (body_load hf.body HY.out) ?_)
          refine (HW2.out _).mono ?_
          rintro e w' ⟨rfl, rfl⟩
          cases O
          case false =>
            go_wp2_with fail
            go_ret
            exact ⟨by simp, HB.out⟩
          case true =>
            go_wp2_with fail
            refine (HW3.out _).mono ?_
            rintro e w' ⟨rfl, rfl⟩
            cases I
            case false =>
              go_wp2_with fail
              go_ret
              exact ⟨by simp, HB.out⟩
            case true =>
              go_wp2_with fail
              refine (HW4.out _).mono ?_
              rintro e w' ⟨rfl, rfl⟩
              go_wp2_with fail
              go_ret
              exact ⟨by simp [KM.out, K0.out], HB.out⟩
      · have k3 : (f.psn == 0) = false := by simp [z0]
        have HN := Lib.hid z0
        clear z0
        go_enter Try.func43, Try.ntmps43
        go_wp2_with fail
        refine (HW1.out _).mono ?_
        rintro e w' ⟨rfl, rfl⟩
        go_wp2_with fail
        refine (HW2.out _).mono ?_
        rintro e w' ⟨rfl, rfl⟩
        cases O
        case false =>
          go_wp2_with fail
          go_ret
          exact ⟨by simp, HB.out⟩
        case true =>
          go_wp2_with fail
          refine (HW3.out _).mono ?_
          rintro e w' ⟨rfl, rfl⟩
          cases I
          case false =>
            go_wp2_with fail
            go_ret
            exact ⟨by simp, HB.out⟩
          case true =>
            go_wp2_with fail
            refine (HW4.out _).mono ?_
            rintro e w' ⟨rfl, rfl⟩
            go_wp2_with fail
            go_ret
            exact ⟨by have h1 := HN.out; have h2 := HQ'.out; rw [← h2]; simp only [KM.out]; simp; omega, HB.out⟩
    · have KM : Hid ((f.mode == 1 || f.mode == 2) = false) := Lib.hid (by simp at k1 k2; simp [k1, k2])
      go_enter Try.func43, Try.ntmps43
      go_wp2_with fail
      refine (HW1.out _).mono ?_
      rintro e w' ⟨rfl, rfl⟩
      go_wp2_with fail
      go_ret
      exact ⟨by simp [KM.out], HB.out⟩
end Go.Proofs.Ytjbjfpbhacpeiaa
