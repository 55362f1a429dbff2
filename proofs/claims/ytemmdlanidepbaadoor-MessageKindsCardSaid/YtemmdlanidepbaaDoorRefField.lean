/- Contract of millpondref18.Fields. Contract of millpondref18.field. -/
import Derived.Test.YtemmdlanidepbaaDoorMsgCells
namespace Go.Proofs.YtemmdlanidepbaaDoor
open Go.RowKit
set_option linter.unusedSimpArgs false
set_option maxRecDepth 100000

/-- a slice of fields that can be read -/
def FldsR (w : World) (l : List Int) (e : Ending) (w' : World) : Prop := ∃ A c, e = .returned (.slice A l.length c) ∧ At w' A (iv l) ∧ Below w.heap.size w w'
theorem fldsR_lit (w : World) (l : List Int) (cs : Array Value) (h : cs.toList = iv l) (n c : Nat) (hn : n = l.length) : FldsR w l (.returned (.slice (some ⟨w.heap.size, 0, none⟩) n c)) (w.alloc (.cells cs 73)) := by
  subst hn
  exact ⟨_, c, rfl, at_ints w _ l cs h, (Below.refl _ _).alloc (Nat.le_refl _) _⟩
set_option maxHeartbeats 8000000 in
theorem rFields_any (k : Int) (w : World) : Calls Tryd.prog 21 #[.int .i64 k] w (FldsR w (fieldsOf k)) := by
  by_cases h : 1 ≤ k ∧ k ≤ 13
  · rcases kind_cases h with rfl | rfl | rfl | rfl | rfl | rfl | rfl | rfl | rfl | rfl | rfl | rfl | rfl
    all_goals
      clear h
      go_enter Tryd.func21, Tryd.ntmps21
      go_wp2_with fail
      go_ret
      exact fldsR_lit w _ _ rfl _ _ rfl
  · rw [fieldsOf_out h]
    have e1 : (k == 1) = false := by simp; omega
    have e2 : (k == 2) = false := by simp; omega
    have e3 : (k == 3) = false := by simp; omega
    have e4 : (k == 4) = false := by simp; omega
    have e5 : (k == 5) = false := by simp; omega
    have e6 : (k == 6) = false := by simp; omega
    have e7 : (k == 7) = false := by simp; omega
    have e8 : (k == 8) = false := by simp; omega
    have e9 : (k == 9) = false := by simp; omega
    have e10 : (k == 10) = false := by simp; omega
    have e11 : (k == 11) = false := by simp; omega
    have e12 : (k == 12) = false := by simp; omega
    have e13 : (k == 13) = false := by simp; omega
    clear h
    go_enter Tryd.func21, Tryd.ntmps21
    go_wp2_with fail
    go_ret
    exact ⟨none, 0, rfl, At.nil _ _, Below.refl _ _⟩
end Go.Proofs.YtemmdlanidepbaaDoor
namespace Go.Proofs.YtemmdlanidepbaaDoor
open Go.RowKit
set_option linter.unusedSimpArgs false
set_option maxRecDepth 100000

/-- may a message's field be? -/
def okF (m : Msg) (f : Int) : Bool :=
  if f = 1 then decide (0 ≤ m.page) && decide (m.page < 16) else if f = 2 then decide (1 ≤ m.op) && decide (m.op ≤ 4611686018427387904) else if f = 3 then m.mode == 1 || m.mode == 2
  else if f = 4 then decide (0 ≤ m.dest) && decide (m.dest < 8) else if f = 5 then decide (m.psn ≤ 2147483647) && (decide (1 ≤ m.psn) || m.psn == 0 && m.kind == 7) else if f = 7 then decide (0 < m.psn) || bodyZ m.body else true
def OkR (w : World) (b : Bool) (e : Ending) (w' : World) : Prop := e = .returned (.bool b) ∧ Below w.heap.size w w'
set_option maxHeartbeats 8000000 in
theorem rField_any (m : Msg) (hm : m.Ok) (f : Int) (hf : f = 1 ∨ f = 2 ∨ f = 3 ∨ f = 4 ∨ f = 5 ∨ f = 6 ∨ f = 7) (w : World) : Calls Tryd.prog 43 #[.agg (mcells m), .int .i64 f] w (OkR w (okF m f)) := by
  have MC := Lib.hid (MCells.box w m)
  have HB : Hid (Below w.heap.size w (w.alloc (.cells (mcells m) 27))) := Lib.hid ((Below.refl _ _).alloc (Nat.le_refl _) _)
  obtain ⟨mc, hmc⟩ : ∃ mc, mc = mcells m := ⟨_, rfl⟩
  rw [← hmc] at MC HB ⊢
  clear hmc
  rcases hf with rfl | rfl | rfl | rfl | rfl | rfl | rfl
  · have c1 := MC.out.c1
    obtain ⟨b, hb⟩ : ∃ b, okF m 1 = b := ⟨_, rfl⟩
    rw [hb]
    have HR := Lib.hid hb
    clear hb
    by_cases h1 : 0 ≤ m.page
    · by_cases h2 : m.page < 16
      · go_enter Tryd.func43, Tryd.ntmps43
        go_wp2_with fail
        go_ret
        exact ⟨by rw [← HR.out]; simp [okF]; omega, HB.out⟩
      · go_enter Tryd.func43, Tryd.ntmps43
        go_wp2_with fail
        go_ret
        exact ⟨by rw [← HR.out]; simp [okF]; omega, HB.out⟩
    · go_enter Tryd.func43, Tryd.ntmps43
      go_wp2_with fail
      go_ret
      exact ⟨by rw [← HR.out]; simp [okF]; omega, HB.out⟩
  · have c2 := MC.out.c2
    obtain ⟨b, hb⟩ : ∃ b, okF m 2 = b := ⟨_, rfl⟩
    rw [hb]
    have HR := Lib.hid hb
    clear hb
    by_cases h1 : 1 ≤ m.op
    · by_cases h2 : m.op ≤ 4611686018427387904
      · go_enter Tryd.func43, Tryd.ntmps43
        go_wp2_with fail
        go_ret
        exact ⟨by rw [← HR.out]; simp [okF]; omega, HB.out⟩
      · go_enter Tryd.func43, Tryd.ntmps43
        go_wp2_with fail
        go_ret
        exact ⟨by rw [← HR.out]; simp [okF]; omega, HB.out⟩
    · go_enter Tryd.func43, Tryd.ntmps43
      go_wp2_with fail
      go_ret
      exact ⟨by rw [← HR.out]; simp [okF]; omega, HB.out⟩
  · have c3 := MC.out.c3
    obtain ⟨b, hb⟩ : ∃ b, okF m 3 = b := ⟨_, rfl⟩
    rw [hb]
    have HR := Lib.hid hb
    clear hb
    by_cases h1 : m.mode = 1
    · have d1 : (m.mode == 1) = true := by simp [h1]
      have H1 := Lib.hid h1
      clear h1
      go_enter Tryd.func43, Tryd.ntmps43
      go_wp2_with fail
      go_ret
      exact ⟨by rw [← HR.out]; simp [okF, H1.out], HB.out⟩
    · have d1 : (m.mode == 1) = false := by simp [h1]
      by_cases h2 : m.mode = 2
      · have d2 : (m.mode == 2) = true := by simp [h2]
        have H2 := Lib.hid h2
        clear h1 h2
        go_enter Tryd.func43, Tryd.ntmps43
        go_wp2_with fail
        go_ret
        exact ⟨by rw [← HR.out]; simp [okF, H2.out], HB.out⟩
      · have d2 : (m.mode == 2) = false := by simp [h2]
        have H1 := Lib.hid h1
        have H2 := Lib.hid h2
        clear h1 h2
        go_enter Tryd.func43, Tryd.ntmps43
        go_wp2_with fail
        go_ret
        exact ⟨by rw [← HR.out]; simp [okF, H1.out, H2.out], HB.out⟩
  · have c4 := MC.out.c4
    obtain ⟨b, hb⟩ : ∃ b, okF m 4 = b := ⟨_, rfl⟩
    rw [hb]
    have HR := Lib.hid hb
    clear hb
    by_cases h1 : 0 ≤ m.dest
    · by_cases h2 : m.dest < 8
      · go_enter Tryd.func43, Tryd.ntmps43
        go_wp2_with fail
        go_ret
        exact ⟨by rw [← HR.out]; simp [okF]; omega, HB.out⟩
      · go_enter Tryd.func43, Tryd.ntmps43
        go_wp2_with fail
        go_ret
        exact ⟨by rw [← HR.out]; simp [okF]; omega, HB.out⟩
    · go_enter Tryd.func43, Tryd.ntmps43
      go_wp2_with fail
      go_ret
      exact ⟨by rw [← HR.out]; simp [okF]; omega, HB.out⟩
  · have c5 := MC.out.c5
    have c0 := MC.out.c0
    obtain ⟨b, hb⟩ : ∃ b, okF m 5 = b := ⟨_, rfl⟩
    rw [hb]
    have HR := Lib.hid hb
    clear hb
    by_cases h1 : m.psn ≤ 2147483647
    · by_cases h2 : 1 ≤ m.psn
      · go_enter Tryd.func43, Tryd.ntmps43
        go_wp2_with fail
        go_ret
        exact ⟨by rw [← HR.out]; simp [okF]; omega, HB.out⟩
      · by_cases h3 : m.psn = 0
        · have d3 : (m.psn == 0) = true := by simp [h3]
          obtain ⟨q, hq⟩ : ∃ q, (m.kind == 7) = q := ⟨_, rfl⟩
          have HQ := Lib.hid hq
          have H3 := Lib.hid h3
          have d1 : decide (m.psn ≤ 2147483647) = true := by simpa using h1
          have d2 : decide (1 ≤ m.psn) = false := by simpa using h2
          clear h3 h1 h2
          go_enter Tryd.func43, Tryd.ntmps43
          go_wp2_with fail
          go_ret
          exact ⟨by rw [← HR.out]; simp [okF, H3.out, HQ.out], HB.out⟩
        · have d3 : (m.psn == 0) = false := by simp [h3]
          have H3 := Lib.hid h3
          clear h3
          go_enter Tryd.func43, Tryd.ntmps43
          go_wp2_with fail
          go_ret
          exact ⟨by rw [← HR.out]; simp [okF, H3.out]; omega, HB.out⟩
    · go_enter Tryd.func43, Tryd.ntmps43
      go_wp2_with fail
      go_ret
      exact ⟨by rw [← HR.out]; simp [okF]; omega, HB.out⟩
  · go_enter Tryd.func43, Tryd.ntmps43
    go_wp2_with fail
    go_ret
    exact ⟨rfl, HB.out⟩
  · have c5 := MC.out.c5
    obtain ⟨b, hb⟩ : ∃ b, okF m 7 = b := ⟨_, rfl⟩
    rw [hb]
    have HR := Lib.hid hb
    clear hb
    have CB := Lib.hid MC.out.bodyAt
    have BQ : Hid (∀ u, (Op.equalIn 10000 25 (.agg (bodyV m.body)) (.agg Tryd.zeroCells25)).run Tryd.prog u = .ok (bodyZ m.body) u) := Lib.hid fun u => by
      rw [show Tryd.zeroCells25 = bodyV (List.replicate 96 0) by kernel_rfl]
      exact body_eq u m.body (List.replicate 96 0) hm.body (by simp)
    by_cases h2 : 0 < m.psn
    · go_enter Tryd.func43, Tryd.ntmps43
      go_wp2_with fail
      go_ret
      exact ⟨by rw [← HR.out]; simp [okF]; omega, HB.out⟩
    · go_enter Tryd.func43, Tryd.ntmps43
      go_wp2_with fail
      refine wp_load_cells 25 _ rfl ⟨_, 7, none⟩ rfl (bodyV m.body) (body_load hm.body CB.out) ?_
      go_at_K
      have bq := BQ.out
      go_wp2_with fail
      go_ret
      exact ⟨by rw [← HR.out]; simp [okF]; omega, HB.out⟩
end Go.Proofs.YtemmdlanidepbaaDoor
