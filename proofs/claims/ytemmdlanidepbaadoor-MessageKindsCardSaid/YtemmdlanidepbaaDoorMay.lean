/- Contract of message.May. -/
import Derived.Test.YtemmdlanidepbaaDoorMsgCells
namespace Go.Proofs.YtemmdlanidepbaaDoor
open Go.RowKit
set_option linter.unusedSimpArgs false
set_option maxRecDepth 100000

theorem At.drewN {w : World} {A : Option Addr} {cs : List Value} (h : At w A cs) (n : Nat) : At (w.drewN n) A cs := h
theorem zero_body : Tryd.zeroCells25 = bodyV (List.replicate 96 0) := by kernel_rfl
theorem has_at {w : World} {g : Nat} {A : Option Addr} {c : Nat} {l : List Int} (v : Int) (b : Bool) (hc : w.cell? ⟨g, 0, none⟩ = some (.slice A l.length c)) (hA : At w A (iv l)) (hl : l.length ≤ 1000) (hb : decide (v ∈ l) = b) :
    ∀ W n, W = w.drewN n → Calls Tryd.prog 41 #[.int .i64 v, .pointer (some ⟨g, 0, none⟩)] W (fun e w' => e = .returned (.bool b) ∧ ∃ k, w' = w.drewN k) := by
  rintro W n rfl
  refine (has_any g A c l v (w.drewN n) hc hA hl).mono ?_
  rintro e w' ⟨rfl, rfl⟩
  exact ⟨by rw [hb], _, rfl⟩

set_option maxHeartbeats 8000000 in
theorem may_any (m : Msg) (hm : m.Ok) (w : World) : Calls Tryd.prog 10 #[.agg (mcells m)] w (fun e w' => e = .returned (.bool (mayM m)) ∧ Below w.heap.size w w') := by
  have M0 := Lib.hid (MCells.box w m)
  have hk0 := M0.out.c0
  go_enter Tryd.func10, Tryd.ntmps10
  have HB0 : Hid (Below w.heap.size w (w.alloc (.cells (mcells m) 27))) := (Below.refl _ _).alloc (Nat.le_refl _) _
  obtain ⟨mc, hmc⟩ : ∃ mc, mc = mcells m := ⟨_, rfl⟩
  rw [← hmc] at hk0 M0 HB0 ⊢
  clear hmc
  go_wp2_with fail
  refine (fields_any m.kind _).mono ?_
  rintro e w1 ⟨A, c, rfl, ho, hb⟩
  have M1 := Lib.hid (M0.out.below hb)
  have HL := Lib.hid (own_at ho)
  have HB := Lib.hid (Bl.step HB0.out hb)
  clear ho hb hk0 M0 HB0
  obtain ⟨F, hF⟩ : ∃ F, F = fieldsOf m.kind := ⟨_, rfl⟩
  have hFl : F.length ≤ 1000 := by rw [hF]; have := fieldsOf_len m.kind; omega
  rw [← hF] at HL ⊢
  have HF := Lib.hid hF
  clear hF
  go_upto_region 3 with (fail)
  have hbl := (Below.refl w1.heap.size w1).alloc (Nat.le_refl _) (.cells #[.slice A F.length c] 45)
  have M2 := Lib.hid (M1.out.below hbl)
  have HB2 := Lib.hid (Bl.step HB.out hbl)
  have HLc : Hid ((w1.alloc (.cells #[.slice A F.length c] 45)).cell? ⟨w1.heap.size, 0, none⟩ = some (.slice A F.length c)) := Lib.hid (by simp)
  have HA := Lib.hid (HL.out.mono hbl)
  clear hbl M1 HB HL
  generalize w1.alloc (.cells #[.slice A F.length c] 45) = W at *
  generalize w1.heap.size = gl at *
  generalize w.heap.size = g at M2 ⊢
  have H2 := Lib.hid (has_at 2 (hasB m.kind 2) HLc.out HA.out hFl (by rw [HF.out]; rfl))
  have H3 := Lib.hid (has_at 3 (hasB m.kind 3) HLc.out HA.out hFl (by rw [HF.out]; rfl))
  have H4 := Lib.hid (has_at 4 (hasB m.kind 4) HLc.out HA.out hFl (by rw [HF.out]; rfl))
  have H5 := Lib.hid (has_at 5 (hasB m.kind 5) HLc.out HA.out hFl (by rw [HF.out]; rfl))
  have H6 := Lib.hid (has_at 6 (hasB m.kind 6) HLc.out HA.out hFl (by rw [HF.out]; rfl))
  have H7 := Lib.hid (has_at 7 (hasB m.kind 7) HLc.out HA.out hFl (by rw [HF.out]; rfl))
  have HR : Hid (mayM m = (!may1 (decide (F.length = 0)) m.page && !may2 (hasB m.kind 2) (hasB m.kind 3) m.op m.mode && !may3 (hasB m.kind 4) (hasB m.kind 6) (hasB m.kind 7) (bodyZ m.body) m.dest m.dirty && may4 (hasB m.kind 5) (hasB m.kind 7) (bodyZ m.body) m.psn)) := Lib.hid (by rw [HF.out]; rfl)
  have BQ : Hid (∀ u, (Op.equalIn 10000 25 (.agg (bodyV m.body)) (.agg Tryd.zeroCells25)).run Tryd.prog u = .ok (bodyZ m.body) u) := Lib.hid fun u => by
    rw [zero_body]
    exact body_eq u m.body (List.replicate 96 0) hm.body (by simp)
  generalize bodyZ m.body = z at *
  generalize hasB m.kind 2 = b2 at *
  generalize hasB m.kind 3 = b3 at *
  generalize hasB m.kind 4 = b4 at *
  generalize hasB m.kind 5 = b5 at *
  generalize hasB m.kind 6 = b6 at *
  generalize hasB m.kind 7 = b7 at *
  have CB : Hid (At W (some ⟨g, 7, none⟩) (bv m.body)) := Lib.hid (M2.out.bodyAt)
  go_cut [22] (fun s22 wx => s22 = .bool (may1 (decide (F.length = 0)) m.page) ∧ W = wx)
  case first =>
    have c1 := M2.out.c1
    have hlc := HLc.out
    by_cases h0 : F.length = 0
    · have e0 : (F.length == 0) = true := by simp [h0]
      have e1 : ((F.length : Int) == 0) = true := by simp [h0]
      go_wp2_with fail
      go_meet
      exact ⟨congrArg Value.bool (by simp [may1, h0]), rfl⟩
    · have e0 : (F.length == 0) = false := by simp [h0]
      have e1 : ((F.length : Int) == 0) = false := by simpa using h0
      by_cases h1 : m.page < 0
      · go_wp2_with fail
        go_meet
        exact ⟨congrArg Value.bool (by simp [may1, h0, h1]), rfl⟩
      · go_wp2_with fail
        go_meet
        exact ⟨congrArg Value.bool (by rw [Bool.eq_iff_iff]; simp [may1, h0]; omega), rfl⟩
  case rest =>
    obtain ⟨rfl, rfl⟩ := hcut
    obtain ⟨q1, hq1⟩ : ∃ q, q = may1 (decide (F.length = 0)) m.page := ⟨_, rfl⟩
    rw [← hq1] at HR ⊢
    clear hq1
    cases q1
    case true =>
      go_wp2_with fail
      go_ret
      exact ⟨by rw [HR.out]; rfl, HB2.out⟩
    case false =>
      go_upto_region 5 with (fail)
      go_cut [61] (fun s61 wx => s61 = .bool (may2 b2 b3 m.op m.mode) ∧ ∃ n, wx = W.drewN n)
      case first =>
        have c2 := M2.out.c2
        have c3 := M2.out.c3
        cases b2
        case false =>
          by_cases h1 : 0 < m.op
          · have d1 : decide (0 < m.op) = true := by simp; omega
            have d2 : decide (m.op < 0) = false := by simp; omega
            go_quiet ((first | (go_at_call 41; exact H2.out _ _ rfl) | (go_at_call 41; exact H3.out _ _ rfl)))
            go_wp2_with fail
            go_meet
            exact ⟨congrArg Value.bool (by simp only [may2, d1]; rfl), _, rfl⟩
          have d1 : decide (0 < m.op) = false := by simp; omega
          by_cases h2 : m.op < 0
          · have d2 : decide (m.op < 0) = true := by simp; omega
            go_quiet ((first | (go_at_call 41; exact H2.out _ _ rfl) | (go_at_call 41; exact H3.out _ _ rfl)))
            go_wp2_with fail
            go_meet
            exact ⟨congrArg Value.bool (by simp only [may2, d1, d2]; rfl), _, rfl⟩
          have d2 : decide (m.op < 0) = false := by simp; omega
          have d3 : decide (4611686018427387904 < m.op) = false := by simp; omega
          clear h1 h2
          cases b3
          case false =>
            by_cases k1 : m.mode = 1
            · have m1 : (m.mode == 1) = true := by simp [k1]
              have m2 : (m.mode == 2) = false := by simp [k1]
              have m0 : (m.mode == 0) = false := by simp [k1]
              have m3 : (m.mode != 0) = true := by simp [k1]
              clear k1
              go_quiet ((first | (go_at_call 41; exact H2.out _ _ rfl) | (go_at_call 41; exact H3.out _ _ rfl)))
              go_wp2_with fail
              go_meet
              exact ⟨congrArg Value.bool (by simp only [may2, d1, d2, d3, m1, m2, m0, m3]; rfl), _, rfl⟩
            by_cases k2 : m.mode = 2
            · have m1 : (m.mode == 1) = false := by simp [k1]
              have m2 : (m.mode == 2) = true := by simp [k2]
              have m0 : (m.mode == 0) = false := by simp [k2]
              have m3 : (m.mode != 0) = true := by simp [k2]
              clear k1 k2
              go_quiet ((first | (go_at_call 41; exact H2.out _ _ rfl) | (go_at_call 41; exact H3.out _ _ rfl)))
              go_wp2_with fail
              go_meet
              exact ⟨congrArg Value.bool (by simp only [may2, d1, d2, d3, m1, m2, m0, m3]; rfl), _, rfl⟩
            have m1 : (m.mode == 1) = false := by simp [k1]
            have m2 : (m.mode == 2) = false := by simp [k2]
            by_cases k0 : m.mode = 0
            · have m0 : (m.mode == 0) = true := by simp [k0]
              have m3 : (m.mode != 0) = false := by simp [k0]
              clear k1 k2 k0
              go_quiet ((first | (go_at_call 41; exact H2.out _ _ rfl) | (go_at_call 41; exact H3.out _ _ rfl)))
              go_wp2_with fail
              go_meet
              exact ⟨congrArg Value.bool (by simp only [may2, d1, d2, d3, m1, m2, m0, m3]; rfl), _, rfl⟩
            · have m0 : (m.mode == 0) = false := by simp [k0]
              have m3 : (m.mode != 0) = true := by simp [k0]
              clear k1 k2 k0
              go_quiet ((first | (go_at_call 41; exact H2.out _ _ rfl) | (go_at_call 41; exact H3.out _ _ rfl)))
              go_wp2_with fail
              go_meet
              exact ⟨congrArg Value.bool (by simp only [may2, d1, d2, d3, m1, m2, m0, m3]; rfl), _, rfl⟩
          case true =>
            by_cases k1 : m.mode = 1
            · have m1 : (m.mode == 1) = true := by simp [k1]
              have m2 : (m.mode == 2) = false := by simp [k1]
              have m0 : (m.mode == 0) = false := by simp [k1]
              have m3 : (m.mode != 0) = true := by simp [k1]
              clear k1
              go_quiet ((first | (go_at_call 41; exact H2.out _ _ rfl) | (go_at_call 41; exact H3.out _ _ rfl)))
              go_wp2_with fail
              go_meet
              exact ⟨congrArg Value.bool (by simp only [may2, d1, d2, d3, m1, m2, m0, m3]; rfl), _, rfl⟩
            by_cases k2 : m.mode = 2
            · have m1 : (m.mode == 1) = false := by simp [k1]
              have m2 : (m.mode == 2) = true := by simp [k2]
              have m0 : (m.mode == 0) = false := by simp [k2]
              have m3 : (m.mode != 0) = true := by simp [k2]
              clear k1 k2
              go_quiet ((first | (go_at_call 41; exact H2.out _ _ rfl) | (go_at_call 41; exact H3.out _ _ rfl)))
              go_wp2_with fail
              go_meet
              exact ⟨congrArg Value.bool (by simp only [may2, d1, d2, d3, m1, m2, m0, m3]; rfl), _, rfl⟩
            have m1 : (m.mode == 1) = false := by simp [k1]
            have m2 : (m.mode == 2) = false := by simp [k2]
            by_cases k0 : m.mode = 0
            · have m0 : (m.mode == 0) = true := by simp [k0]
              have m3 : (m.mode != 0) = false := by simp [k0]
              clear k1 k2 k0
              go_quiet ((first | (go_at_call 41; exact H2.out _ _ rfl) | (go_at_call 41; exact H3.out _ _ rfl)))
              go_wp2_with fail
              go_meet
              exact ⟨congrArg Value.bool (by simp only [may2, d1, d2, d3, m1, m2, m0, m3]; rfl), _, rfl⟩
            · have m0 : (m.mode == 0) = false := by simp [k0]
              have m3 : (m.mode != 0) = true := by simp [k0]
              clear k1 k2 k0
              go_quiet ((first | (go_at_call 41; exact H2.out _ _ rfl) | (go_at_call 41; exact H3.out _ _ rfl)))
              go_wp2_with fail
              go_meet
              exact ⟨congrArg Value.bool (by simp only [may2, d1, d2, d3, m1, m2, m0, m3]; rfl), _, rfl⟩
        case true =>
          by_cases h1 : 0 < m.op
          case neg =>
            have d1 : decide (0 < m.op) = false := by simp; omega
            go_quiet ((first | (go_at_call 41; exact H2.out _ _ rfl) | (go_at_call 41; exact H3.out _ _ rfl)))
            go_wp2_with fail
            go_meet
            exact ⟨congrArg Value.bool (by simp only [may2, d1]; rfl), _, rfl⟩
          have d1 : decide (0 < m.op) = true := by simp; omega
          have d2 : decide (m.op < 0) = false := by simp; omega
          by_cases h2 : 4611686018427387904 < m.op
          · have d3 : decide (4611686018427387904 < m.op) = true := by simp; omega
            go_quiet ((first | (go_at_call 41; exact H2.out _ _ rfl) | (go_at_call 41; exact H3.out _ _ rfl)))
            go_wp2_with fail
            go_meet
            exact ⟨congrArg Value.bool (by simp only [may2, d1, d2, d3]; rfl), _, rfl⟩
          have d3 : decide (4611686018427387904 < m.op) = false := by simp; omega
          clear h1 h2
          cases b3
          case false =>
            by_cases k1 : m.mode = 1
            · have m1 : (m.mode == 1) = true := by simp [k1]
              have m2 : (m.mode == 2) = false := by simp [k1]
              have m0 : (m.mode == 0) = false := by simp [k1]
              have m3 : (m.mode != 0) = true := by simp [k1]
              clear k1
              go_quiet ((first | (go_at_call 41; exact H2.out _ _ rfl) | (go_at_call 41; exact H3.out _ _ rfl)))
              go_wp2_with fail
              go_meet
              exact ⟨congrArg Value.bool (by simp only [may2, d1, d2, d3, m1, m2, m0, m3]; rfl), _, rfl⟩
            by_cases k2 : m.mode = 2
            · have m1 : (m.mode == 1) = false := by simp [k1]
              have m2 : (m.mode == 2) = true := by simp [k2]
              have m0 : (m.mode == 0) = false := by simp [k2]
              have m3 : (m.mode != 0) = true := by simp [k2]
              clear k1 k2
              go_quiet ((first | (go_at_call 41; exact H2.out _ _ rfl) | (go_at_call 41; exact H3.out _ _ rfl)))
              go_wp2_with fail
              go_meet
              exact ⟨congrArg Value.bool (by simp only [may2, d1, d2, d3, m1, m2, m0, m3]; rfl), _, rfl⟩
            have m1 : (m.mode == 1) = false := by simp [k1]
            have m2 : (m.mode == 2) = false := by simp [k2]
            by_cases k0 : m.mode = 0
            · have m0 : (m.mode == 0) = true := by simp [k0]
              have m3 : (m.mode != 0) = false := by simp [k0]
              clear k1 k2 k0
              go_quiet ((first | (go_at_call 41; exact H2.out _ _ rfl) | (go_at_call 41; exact H3.out _ _ rfl)))
              go_wp2_with fail
              go_meet
              exact ⟨congrArg Value.bool (by simp only [may2, d1, d2, d3, m1, m2, m0, m3]; rfl), _, rfl⟩
            · have m0 : (m.mode == 0) = false := by simp [k0]
              have m3 : (m.mode != 0) = true := by simp [k0]
              clear k1 k2 k0
              go_quiet ((first | (go_at_call 41; exact H2.out _ _ rfl) | (go_at_call 41; exact H3.out _ _ rfl)))
              go_wp2_with fail
              go_meet
              exact ⟨congrArg Value.bool (by simp only [may2, d1, d2, d3, m1, m2, m0, m3]; rfl), _, rfl⟩
          case true =>
            by_cases k1 : m.mode = 1
            · have m1 : (m.mode == 1) = true := by simp [k1]
              have m2 : (m.mode == 2) = false := by simp [k1]
              have m0 : (m.mode == 0) = false := by simp [k1]
              have m3 : (m.mode != 0) = true := by simp [k1]
              clear k1
              go_quiet ((first | (go_at_call 41; exact H2.out _ _ rfl) | (go_at_call 41; exact H3.out _ _ rfl)))
              go_wp2_with fail
              go_meet
              exact ⟨congrArg Value.bool (by simp only [may2, d1, d2, d3, m1, m2, m0, m3]; rfl), _, rfl⟩
            by_cases k2 : m.mode = 2
            · have m1 : (m.mode == 1) = false := by simp [k1]
              have m2 : (m.mode == 2) = true := by simp [k2]
              have m0 : (m.mode == 0) = false := by simp [k2]
              have m3 : (m.mode != 0) = true := by simp [k2]
              clear k1 k2
              go_quiet ((first | (go_at_call 41; exact H2.out _ _ rfl) | (go_at_call 41; exact H3.out _ _ rfl)))
              go_wp2_with fail
              go_meet
              exact ⟨congrArg Value.bool (by simp only [may2, d1, d2, d3, m1, m2, m0, m3]; rfl), _, rfl⟩
            have m1 : (m.mode == 1) = false := by simp [k1]
            have m2 : (m.mode == 2) = false := by simp [k2]
            by_cases k0 : m.mode = 0
            · have m0 : (m.mode == 0) = true := by simp [k0]
              have m3 : (m.mode != 0) = false := by simp [k0]
              clear k1 k2 k0
              go_quiet ((first | (go_at_call 41; exact H2.out _ _ rfl) | (go_at_call 41; exact H3.out _ _ rfl)))
              go_wp2_with fail
              go_meet
              exact ⟨congrArg Value.bool (by simp only [may2, d1, d2, d3, m1, m2, m0, m3]; rfl), _, rfl⟩
            · have m0 : (m.mode == 0) = false := by simp [k0]
              have m3 : (m.mode != 0) = true := by simp [k0]
              clear k1 k2 k0
              go_quiet ((first | (go_at_call 41; exact H2.out _ _ rfl) | (go_at_call 41; exact H3.out _ _ rfl)))
              go_wp2_with fail
              go_meet
              exact ⟨congrArg Value.bool (by simp only [may2, d1, d2, d3, m1, m2, m0, m3]; rfl), _, rfl⟩
      case rest =>
        obtain ⟨rfl, n5, rfl⟩ := hcut
        obtain ⟨q2, hq2⟩ : ∃ q, q = may2 b2 b3 m.op m.mode := ⟨_, rfl⟩
        rw [← hq2] at HR ⊢
        clear hq2 H2 H3
        cases q2
        case true =>
          go_wp2_with fail
          go_ret
          exact ⟨by rw [HR.out]; rfl, Bl.drewN HB2.out n5⟩
        case false =>
          go_upto_region 7 with (fail)
          go_cut [99] (fun s99 wx => s99 = .bool (may3 b4 b6 b7 z m.dest m.dirty) ∧ ∃ n, wx = W.drewN n)
          case first =>
            have c4 := M2.out.c4
            have c6 := M2.out.c6
            cases b4
            case false =>
              by_cases h1 : m.dest = 0
              case neg =>
                have d1 : (m.dest == 0) = false := by simp [h1]
                have d1' : (m.dest != 0) = true := by simp [h1]
                clear h1
                go_wp2_with (first | (go_at_call 41; refine (H4.out _ _ rfl).mono ?_; rintro e w' ⟨rfl, n, rfl⟩) | (go_at_call 41; refine (H6.out _ _ rfl).mono ?_; rintro e w' ⟨rfl, n, rfl⟩) | (go_at_call 41; refine (H7.out _ _ rfl).mono ?_; rintro e w' ⟨rfl, n, rfl⟩))
                go_meet
                exact ⟨congrArg Value.bool (by simp only [may3, d1']; cases z <;> rfl), _, rfl⟩
              case pos =>
                have d1 : (m.dest == 0) = true := by simp [h1]
                have d1' : (m.dest != 0) = false := by simp [h1]
                have d2 : decide (m.dest < 0) = false := by simp; omega
                have d3 : decide (8 ≤ m.dest) = false := by simp; omega
                clear h1
                obtain ⟨dt, hdt⟩ : ∃ dt, m.dirty = dt := ⟨_, rfl⟩
                rw [hdt] at c6
                cases b6
                case false =>
                  cases dt
                  case true =>
                    have HDT := Lib.hid hdt
                    clear hdt
                    go_wp2_with (first | (go_at_call 41; refine (H4.out _ _ rfl).mono ?_; rintro e w' ⟨rfl, n, rfl⟩) | (go_at_call 41; refine (H6.out _ _ rfl).mono ?_; rintro e w' ⟨rfl, n, rfl⟩) | (go_at_call 41; refine (H7.out _ _ rfl).mono ?_; rintro e w' ⟨rfl, n, rfl⟩))
                    go_meet
                    exact ⟨congrArg Value.bool (by simp only [may3, HDT.out, d1', d2, d3]; cases z <;> rfl), _, rfl⟩
                  case false =>
                    cases b7
                    case true =>
                      have HDT := Lib.hid hdt
                      clear hdt
                      go_wp2_with (first | (go_at_call 41; refine (H4.out _ _ rfl).mono ?_; rintro e w' ⟨rfl, n, rfl⟩) | (go_at_call 41; refine (H6.out _ _ rfl).mono ?_; rintro e w' ⟨rfl, n, rfl⟩) | (go_at_call 41; refine (H7.out _ _ rfl).mono ?_; rintro e w' ⟨rfl, n, rfl⟩))
                      go_meet
                      exact ⟨congrArg Value.bool (by simp only [may3, HDT.out, d1', d2, d3]; cases z <;> rfl), _, rfl⟩
                    case false =>
                      have HDT := Lib.hid hdt
                      clear hdt
                      go_wp2_with (first | (go_at_call 41; refine (H4.out _ _ rfl).mono ?_; rintro e w' ⟨rfl, n, rfl⟩) | (go_at_call 41; refine (H6.out _ _ rfl).mono ?_; rintro e w' ⟨rfl, n, rfl⟩) | (go_at_call 41; refine (H7.out _ _ rfl).mono ?_; rintro e w' ⟨rfl, n, rfl⟩))
                      refine wp_load_cells 25 _ rfl ⟨g, 7, none⟩ rfl (bodyV m.body) (body_load hm.body (CB.out.drewN _)) ?_
                      go_at_K
                      have bq := BQ.out
                      go_wp2_with fail
                      go_meet
                      exact ⟨congrArg Value.bool (by simp only [may3, HDT.out, d1', d2, d3]; cases z <;> rfl), _, rfl⟩
                case true =>
                  cases b7
                  case true =>
                    have HDT := Lib.hid hdt
                    clear hdt
                    go_wp2_with (first | (go_at_call 41; refine (H4.out _ _ rfl).mono ?_; rintro e w' ⟨rfl, n, rfl⟩) | (go_at_call 41; refine (H6.out _ _ rfl).mono ?_; rintro e w' ⟨rfl, n, rfl⟩) | (go_at_call 41; refine (H7.out _ _ rfl).mono ?_; rintro e w' ⟨rfl, n, rfl⟩))
                    go_meet
                    exact ⟨congrArg Value.bool (by simp only [may3, HDT.out, d1', d2, d3]; cases z <;> rfl), _, rfl⟩
                  case false =>
                    have HDT := Lib.hid hdt
                    clear hdt
                    go_wp2_with (first | (go_at_call 41; refine (H4.out _ _ rfl).mono ?_; rintro e w' ⟨rfl, n, rfl⟩) | (go_at_call 41; refine (H6.out _ _ rfl).mono ?_; rintro e w' ⟨rfl, n, rfl⟩) | (go_at_call 41; refine (H7.out _ _ rfl).mono ?_; rintro e w' ⟨rfl, n, rfl⟩))
                    refine wp_load_cells 25 _ rfl ⟨g, 7, none⟩ rfl (bodyV m.body) (body_load hm.body (CB.out.drewN _)) ?_
                    go_at_K
                    have bq := BQ.out
                    go_wp2_with fail
                    go_meet
                    exact ⟨congrArg Value.bool (by simp only [may3, HDT.out, d1', d2, d3]; cases z <;> rfl), _, rfl⟩
            case true =>
              by_cases h1 : m.dest < 0
              · have d2 : decide (m.dest < 0) = true := by simp; omega
                go_wp2_with (first | (go_at_call 41; refine (H4.out _ _ rfl).mono ?_; rintro e w' ⟨rfl, n, rfl⟩) | (go_at_call 41; refine (H6.out _ _ rfl).mono ?_; rintro e w' ⟨rfl, n, rfl⟩) | (go_at_call 41; refine (H7.out _ _ rfl).mono ?_; rintro e w' ⟨rfl, n, rfl⟩))
                go_meet
                exact ⟨congrArg Value.bool (by simp only [may3, d2]; cases z <;> rfl), _, rfl⟩
              have d2 : decide (m.dest < 0) = false := by simp; omega
              by_cases h3 : 8 ≤ m.dest
              · have d3 : decide (8 ≤ m.dest) = true := by simp; omega
                go_wp2_with (first | (go_at_call 41; refine (H4.out _ _ rfl).mono ?_; rintro e w' ⟨rfl, n, rfl⟩) | (go_at_call 41; refine (H6.out _ _ rfl).mono ?_; rintro e w' ⟨rfl, n, rfl⟩) | (go_at_call 41; refine (H7.out _ _ rfl).mono ?_; rintro e w' ⟨rfl, n, rfl⟩))
                go_meet
                exact ⟨congrArg Value.bool (by simp only [may3, d2, d3]; cases z <;> rfl), _, rfl⟩
              have d3 : decide (8 ≤ m.dest) = false := by simp; omega
              clear h1 h3
              obtain ⟨dt, hdt⟩ : ∃ dt, m.dirty = dt := ⟨_, rfl⟩
              rw [hdt] at c6
              cases b6
              case false =>
                cases dt
                case true =>
                  have HDT := Lib.hid hdt
                  clear hdt
                  go_wp2_with (first | (go_at_call 41; refine (H4.out _ _ rfl).mono ?_; rintro e w' ⟨rfl, n, rfl⟩) | (go_at_call 41; refine (H6.out _ _ rfl).mono ?_; rintro e w' ⟨rfl, n, rfl⟩) | (go_at_call 41; refine (H7.out _ _ rfl).mono ?_; rintro e w' ⟨rfl, n, rfl⟩))
                  go_meet
                  exact ⟨congrArg Value.bool (by simp only [may3, HDT.out, d2, d3]; cases z <;> rfl), _, rfl⟩
                case false =>
                  cases b7
                  case true =>
                    have HDT := Lib.hid hdt
                    clear hdt
                    go_wp2_with (first | (go_at_call 41; refine (H4.out _ _ rfl).mono ?_; rintro e w' ⟨rfl, n, rfl⟩) | (go_at_call 41; refine (H6.out _ _ rfl).mono ?_; rintro e w' ⟨rfl, n, rfl⟩) | (go_at_call 41; refine (H7.out _ _ rfl).mono ?_; rintro e w' ⟨rfl, n, rfl⟩))
                    go_meet
                    exact ⟨congrArg Value.bool (by simp only [may3, HDT.out, d2, d3]; cases z <;> rfl), _, rfl⟩
                  case false =>
                    have HDT := Lib.hid hdt
                    clear hdt
                    go_wp2_with (first | (go_at_call 41; refine (H4.out _ _ rfl).mono ?_; rintro e w' ⟨rfl, n, rfl⟩) | (go_at_call 41; refine (H6.out _ _ rfl).mono ?_; rintro e w' ⟨rfl, n, rfl⟩) | (go_at_call 41; refine (H7.out _ _ rfl).mono ?_; rintro e w' ⟨rfl, n, rfl⟩))
                    refine wp_load_cells 25 _ rfl ⟨g, 7, none⟩ rfl (bodyV m.body) (body_load hm.body (CB.out.drewN _)) ?_
                    go_at_K
                    have bq := BQ.out
                    go_wp2_with fail
                    go_meet
                    exact ⟨congrArg Value.bool (by simp only [may3, HDT.out, d2, d3]; cases z <;> rfl), _, rfl⟩
              case true =>
                cases b7
                case true =>
                  have HDT := Lib.hid hdt
                  clear hdt
                  go_wp2_with (first | (go_at_call 41; refine (H4.out _ _ rfl).mono ?_; rintro e w' ⟨rfl, n, rfl⟩) | (go_at_call 41; refine (H6.out _ _ rfl).mono ?_; rintro e w' ⟨rfl, n, rfl⟩) | (go_at_call 41; refine (H7.out _ _ rfl).mono ?_; rintro e w' ⟨rfl, n, rfl⟩))
                  go_meet
                  exact ⟨congrArg Value.bool (by simp only [may3, HDT.out, d2, d3]; cases z <;> rfl), _, rfl⟩
                case false =>
                  have HDT := Lib.hid hdt
                  clear hdt
                  go_wp2_with (first | (go_at_call 41; refine (H4.out _ _ rfl).mono ?_; rintro e w' ⟨rfl, n, rfl⟩) | (go_at_call 41; refine (H6.out _ _ rfl).mono ?_; rintro e w' ⟨rfl, n, rfl⟩) | (go_at_call 41; refine (H7.out _ _ rfl).mono ?_; rintro e w' ⟨rfl, n, rfl⟩))
                  refine wp_load_cells 25 _ rfl ⟨g, 7, none⟩ rfl (bodyV m.body) (body_load hm.body (CB.out.drewN _)) ?_
                  go_at_K
                  have bq := BQ.out
                  go_wp2_with fail
                  go_meet
                  exact ⟨congrArg Value.bool (by simp only [may3, HDT.out, d2, d3]; cases z <;> rfl), _, rfl⟩
          case rest =>
            obtain ⟨rfl, n7, rfl⟩ := hcut
            obtain ⟨q3, hq3⟩ : ∃ q, q = may3 b4 b6 b7 z m.dest m.dirty := ⟨_, rfl⟩
            rw [← hq3] at HR ⊢
            clear hq3 H4 H6
            cases q3
            case true =>
              go_wp2_with fail
              go_ret
              exact ⟨by rw [HR.out]; rfl, Bl.drewN HB2.out n7⟩
            case false =>
              have c5 := M2.out.c5
              cases b7
              case false =>
                cases b5
                case false =>
                  go_wp2_with (first | (go_at_call 41; refine (H7.out _ _ rfl).mono ?_; rintro e w' ⟨rfl, n, rfl⟩) | (go_at_call 41; refine (H5.out _ _ rfl).mono ?_; rintro e w' ⟨rfl, n, rfl⟩))
                  go_ret
                  exact ⟨by rw [HR.out]; exact congrArg (fun x => Ending.returned (Value.bool x)) (by cases z <;> simp [may4] <;> omega), Bl.drewN HB2.out _⟩
                case true =>
                  by_cases h1 : 1 ≤ m.psn
                  case neg =>
                    have d1 : decide (1 ≤ m.psn) = false := by simp; omega
                    go_wp2_with (first | (go_at_call 41; refine (H7.out _ _ rfl).mono ?_; rintro e w' ⟨rfl, n, rfl⟩) | (go_at_call 41; refine (H5.out _ _ rfl).mono ?_; rintro e w' ⟨rfl, n, rfl⟩))
                    go_ret
                    exact ⟨by rw [HR.out]; exact congrArg (fun x => Ending.returned (Value.bool x)) (by cases z <;> simp [may4] <;> omega), Bl.drewN HB2.out _⟩
                  have d1 : decide (1 ≤ m.psn) = true := by simp; omega
                  by_cases h2 : m.psn ≤ 2147483647
                  case neg =>
                    have d2 : decide (m.psn ≤ 2147483647) = false := by simp; omega
                    go_wp2_with (first | (go_at_call 41; refine (H7.out _ _ rfl).mono ?_; rintro e w' ⟨rfl, n, rfl⟩) | (go_at_call 41; refine (H5.out _ _ rfl).mono ?_; rintro e w' ⟨rfl, n, rfl⟩))
                    go_ret
                    exact ⟨by rw [HR.out]; exact congrArg (fun x => Ending.returned (Value.bool x)) (by cases z <;> simp [may4] <;> omega), Bl.drewN HB2.out _⟩
                  have d2 : decide (m.psn ≤ 2147483647) = true := by simp; omega
                  by_cases h3 : 0 < m.psn
                  · have d3 : decide (0 < m.psn) = true := by simp; omega
                    go_wp2_with (first | (go_at_call 41; refine (H7.out _ _ rfl).mono ?_; rintro e w' ⟨rfl, n, rfl⟩) | (go_at_call 41; refine (H5.out _ _ rfl).mono ?_; rintro e w' ⟨rfl, n, rfl⟩))
                    go_ret
                    exact ⟨by rw [HR.out]; exact congrArg (fun x => Ending.returned (Value.bool x)) (by cases z <;> simp [may4] <;> omega), Bl.drewN HB2.out _⟩
                  · exfalso
                    omega
              case true =>
                cases b5
                case false =>
                  go_wp2_with (first | (go_at_call 41; refine (H7.out _ _ rfl).mono ?_; rintro e w' ⟨rfl, n, rfl⟩) | (go_at_call 41; refine (H5.out _ _ rfl).mono ?_; rintro e w' ⟨rfl, n, rfl⟩))
                  go_ret
                  exact ⟨by rw [HR.out]; exact congrArg (fun x => Ending.returned (Value.bool x)) (by cases z <;> simp [may4] <;> omega), Bl.drewN HB2.out _⟩
                case true =>
                  by_cases h1 : 0 ≤ m.psn
                  case neg =>
                    have d1 : decide (0 ≤ m.psn) = false := by simp; omega
                    go_wp2_with (first | (go_at_call 41; refine (H7.out _ _ rfl).mono ?_; rintro e w' ⟨rfl, n, rfl⟩) | (go_at_call 41; refine (H5.out _ _ rfl).mono ?_; rintro e w' ⟨rfl, n, rfl⟩))
                    go_ret
                    exact ⟨by rw [HR.out]; exact congrArg (fun x => Ending.returned (Value.bool x)) (by cases z <;> simp [may4] <;> omega), Bl.drewN HB2.out _⟩
                  have d1 : decide (0 ≤ m.psn) = true := by simp; omega
                  by_cases h2 : m.psn ≤ 2147483647
                  case neg =>
                    have d2 : decide (m.psn ≤ 2147483647) = false := by simp; omega
                    go_wp2_with (first | (go_at_call 41; refine (H7.out _ _ rfl).mono ?_; rintro e w' ⟨rfl, n, rfl⟩) | (go_at_call 41; refine (H5.out _ _ rfl).mono ?_; rintro e w' ⟨rfl, n, rfl⟩))
                    go_ret
                    exact ⟨by rw [HR.out]; exact congrArg (fun x => Ending.returned (Value.bool x)) (by cases z <;> simp [may4] <;> omega), Bl.drewN HB2.out _⟩
                  have d2 : decide (m.psn ≤ 2147483647) = true := by simp; omega
                  by_cases h3 : 0 < m.psn
                  · have d3 : decide (0 < m.psn) = true := by simp; omega
                    go_wp2_with (first | (go_at_call 41; refine (H7.out _ _ rfl).mono ?_; rintro e w' ⟨rfl, n, rfl⟩) | (go_at_call 41; refine (H5.out _ _ rfl).mono ?_; rintro e w' ⟨rfl, n, rfl⟩))
                    go_ret
                    exact ⟨by rw [HR.out]; exact congrArg (fun x => Ending.returned (Value.bool x)) (by cases z <;> simp [may4] <;> omega), Bl.drewN HB2.out _⟩
                  · have d3 : decide (0 < m.psn) = false := by simp; omega
                    go_wp2_with (first | (go_at_call 41; refine (H7.out _ _ rfl).mono ?_; rintro e w' ⟨rfl, n, rfl⟩) | (go_at_call 41; refine (H5.out _ _ rfl).mono ?_; rintro e w' ⟨rfl, n, rfl⟩))
                    refine wp_load_cells 25 _ rfl ⟨g, 7, none⟩ rfl (bodyV m.body) (body_load hm.body (CB.out.drewN _)) ?_
                    go_at_K
                    have bq := BQ.out
                    go_wp2_with fail
                    go_ret
                    exact ⟨by rw [HR.out]; exact congrArg (fun x => Ending.returned (Value.bool x)) (by cases z <;> simp [may4] <;> omega), Bl.drewN HB2.out _⟩
end Go.Proofs.YtemmdlanidepbaaDoor
