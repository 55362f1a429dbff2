/- Contract of the document's May of a frame. -/
import Derived.Test.YtjbjfpbhacpeiaaP5
namespace Go.Proofs.Ytjbjfpbhacpeiaa
open Go.RowKit
set_option linter.unusedSimpArgs false
set_option linter.unusedVariables false
set_option maxRecDepth 100000

/-- the two halves of what may be -/
def may1 (f : Fr) : Bool := decide (f.page < 0) || decide (16 ≤ f.page) || ((f.mode != 1) && (f.mode != 2))
def may2 (f : Fr) (Z : Bool) : Bool := decide (0 ≤ f.op) && decide (f.op ≤ 4611686018427387904) && decide (0 ≤ f.first) && decide (f.first ≤ 2147483647) && decide (0 ≤ f.psn) && decide (f.psn ≤ 2147483647) && (decide (0 < f.psn) || Z)
theorem mayF_halves (f : Fr) : mayF f = (!may1 f && may2 f (decide (f.body = List.replicate 96 0))) := by
  unfold mayF may1 may2
  generalize decide (f.body = List.replicate 96 0) = Z
  cases Z
  all_goals
    rw [Bool.eq_iff_iff]
    simp
    omega
set_option maxHeartbeats 8000000 in
theorem rmay_any (f : Fr) (hf : f.Ok) (w : World) : Calls Try.prog 45 #[.agg (fA f)] w (fun e w' => e = .returned (.bool (mayF f)) ∧ Below w.heap.size w w') := by
  have hC : FCells (w.alloc (.cells (fA f) 39)) w.heap.size f := ⟨heap_alloc_new w _⟩
  have HB : Hid (Below w.heap.size w (w.alloc (.cells (fA f) 39))) := Lib.hid ((Below.refl _ _).alloc (Nat.le_refl _) _)
  obtain ⟨c0, c1, c2, c3, c4⟩ := hC.c hf
  have HY := Lib.hid (hC.bodyAt hf)
  clear hC
  have hmf := mayF_halves f
  obtain ⟨Z, hZ⟩ : ∃ A, decide (f.body = List.replicate 96 0) = A := ⟨_, rfl⟩
  have HZ : Hid (∀ u, (Op.equalIn 10000 35 (.agg (bodyV f.body)) (.agg noBody)).run Try.prog u = .ok Z u) := Lib.hid (fun u => by rw [noBody_eq, body_eq u _ _ hf.body (by simp), hZ])
  rw [hZ] at hmf
  have HM := Lib.hid hmf
  clear hZ hmf
  go_enter Try.func45, Try.ntmps45
  go_upto_region 1 with fail
  generalize w.alloc (.cells (fA f) 39) = w1 at *
  go_cut [20] from 3 (fun v wc => v = .bool (may1 f) ∧ wc = w1)
  case first =>
    by_cases g1 : 0 ≤ f.page
    · by_cases g2 : f.page < 16
      · by_cases k1 : f.mode = 1
        · have hm : Hid (may1 f = false) := Lib.hid (by unfold may1; simp; omega)
          have n1 : (f.mode != 1) = false := by simp [k1]
          clear k1
          go_wp2_with fail
          go_meet
          exact ⟨by rw [hm.out, decide_eq_false (by omega), decide_eq_false (by omega)]; rfl, rfl⟩
        · have n1 : (f.mode != 1) = true := by simp [k1]
          obtain ⟨M, hM⟩ : ∃ M, (f.mode != 2) = M := ⟨_, rfl⟩
          have hm : Hid (may1 f = M) := Lib.hid (by unfold may1; rw [n1, hM]; simp; omega)
          clear k1
          go_wp2_with fail
          go_meet
          exact ⟨by rw [hm.out, decide_eq_false (by omega), decide_eq_false (by omega)]; rfl, rfl⟩
      · have hm : Hid (may1 f = true) := Lib.hid (by unfold may1; simp; omega)
        go_wp2_with fail
        go_meet
        exact ⟨by rw [hm.out], rfl⟩
    · have hm : Hid (may1 f = true) := Lib.hid (by unfold may1; simp; omega)
      go_wp2_with fail
      go_meet
      exact ⟨by rw [hm.out], rfl⟩
  case rest =>
    obtain ⟨rfl, rfl⟩ := hcut
    cases hb1 : may1 f
    case true =>
      rw [hb1] at HM
      go_wp2_with fail
      go_ret
      exact ⟨by rw [HM.out]; rfl, HB.out⟩
    case false =>
      rw [hb1] at HM
      clear hb1
      by_cases t0 : 0 ≤ f.op
      · by_cases t1 : f.op ≤ 4611686018427387904
        · by_cases t2 : 0 ≤ f.first
          · by_cases t3 : f.first ≤ 2147483647
            · by_cases t4 : 0 ≤ f.psn
              · by_cases t5 : f.psn ≤ 2147483647
                · by_cases zp : 0 < f.psn
                  · have HF : Hid (may2 f Z = true) := Lib.hid (by unfold may2; simp; omega)
                    go_wp2_with fail
                    go_ret
                    exact ⟨by rw [HM.out, HF.out]; rfl, HB.out⟩
                  · have HF : Hid (may2 f Z = Z) := Lib.hid (by unfold may2; cases Z <;> simp <;> omega)
                    have bq := HZ.out
                    have hz := zbo
                    go_wp2_with (refine wpList_load_body (by kernel_rfl) (.tmp 58) rfl ⟨w.heap.size, 5, none⟩ rfl (bodyV f.body) (body_load hf.body HY.out) ?_)
                    go_ret
                    exact ⟨by rw [HM.out, HF.out]; rfl, HB.out⟩
                · have HF : Hid (may2 f Z = false) := Lib.hid (by unfold may2; simp; omega)
                  go_wp2_with fail
                  go_ret
                  exact ⟨by rw [HM.out, HF.out]; rfl, HB.out⟩
              · have HF : Hid (may2 f Z = false) := Lib.hid (by unfold may2; simp; omega)
                go_wp2_with fail
                go_ret
                exact ⟨by rw [HM.out, HF.out]; rfl, HB.out⟩
            · have HF : Hid (may2 f Z = false) := Lib.hid (by unfold may2; simp; omega)
              go_wp2_with fail
              go_ret
              exact ⟨by rw [HM.out, HF.out]; rfl, HB.out⟩
          · have HF : Hid (may2 f Z = false) := Lib.hid (by unfold may2; simp; omega)
            go_wp2_with fail
            go_ret
            exact ⟨by rw [HM.out, HF.out]; rfl, HB.out⟩
        · have HF : Hid (may2 f Z = false) := Lib.hid (by unfold may2; simp; omega)
          go_wp2_with fail
          go_ret
          exact ⟨by rw [HM.out, HF.out]; rfl, HB.out⟩
      · have HF : Hid (may2 f Z = false) := Lib.hid (by unfold may2; simp; omega)
        go_wp2_with fail
        go_ret
        exact ⟨by rw [HM.out, HF.out]; rfl, HB.out⟩
end Go.Proofs.Ytjbjfpbhacpeiaa
