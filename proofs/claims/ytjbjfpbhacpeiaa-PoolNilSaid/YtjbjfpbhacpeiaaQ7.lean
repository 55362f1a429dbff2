/- Contract of the document's Victim. -/
import Derived.Test.YtjbjfpbhacpeiaaQ2
import Derived.Test.YtjbjfpbhacpeiaaR4
namespace Go.Proofs.Ytjbjfpbhacpeiaa
open Go.RowKit
set_option linter.unusedSimpArgs false
set_option linter.unusedVariables false
set_option maxRecDepth 100000

section
variable {w : World} {r q : Nat} {K : Int} {S : PS}
theorem RefAt.turn (h : RefAt w r q S) (k : Nat) : RefAt (w.setCell ⟨r, 1, none⟩ (.int .i64 (k : Int))) r q { S with hand := k } := by
  refine ⟨?_, h.row.kept (setCell_ex (T := fun k => k = r) 1 _ w rfl) (Ne.symm h.ne)⟩
  have := h.head.set 1 (.int .i64 (k : Int))
  exact this
theorem turn_ok (h : S.Ok K) {k : Nat} (hk : k < S.s.length) : PS.Ok K { S with hand := k } := ⟨h.pos, h.len, hk, h.live, h.uniq⟩
end
theorem any_take (s : List Slot) (p : Slot → Bool) (j : Nat) (x : Slot) (h : s[j]? = some x) : (s.take (j + 1)).any p = ((s.take j).any p || p x) := by
  obtain ⟨h1, h2⟩ := List.getElem?_eq_some_iff.1 h
  have e : s.take (j + 1) = s.take j ++ [x] := by rw [← h2, List.take_append_getElem h1]
  rw [e, List.any_append]
  simp
theorem rvictim_nil (w : World) : Calls Try.prog 32 #[.pointer none] w (fun e w' => e = .returned (.tuple #[.int .i64 0, .bool false]) ∧ w = w') := by
  go_enter Try.func32, Try.ntmps32
  go_wp2_with fail
  go_ret2
  exact ⟨rfl, rfl⟩
set_option maxHeartbeats 16000000 in
theorem rvictim_any (w : World) (r q : Nat) {Kb : Int} {S : PS} (h : RefAt w r q S) (hS : S.Ok Kb) :
    Calls Try.prog 32 #[.pointer (some ⟨r, 0, none⟩)] w (fun e w' => e = .returned (.tuple #[.int .i64 (victimS S).1.1, .bool (victimS S).1.2]) ∧ RefAt w' r q (victimS S).2 ∧ Ex (RB r q) w w') := by
  have c0 := h.c0
  have h16 := hS.len
  have HR := Lib.hid h
  have HS := Lib.hid hS
  clear h hS
  go_enter Try.func32, Try.ntmps32
  go_wp2_with fail
  go_loopg [4, 5] S.s.length (fun kk t i wr => ∃ (j : Nat) (b : Bool), t = .bool b ∧ i = .int .i64 (j : Int) ∧ Hid (j + kk = S.s.length ∧ b = (S.s.take j).any canGo) ∧ w = wr)
  case atStart => exact ⟨0, false, rfl, rfl, Lib.hid ⟨Nat.zero_add _, rfl⟩, rfl⟩
  case round =>
    obtain ⟨j, b, rfl, rfl, hj, rfl⟩ := hrel
    by_cases hlt : j < S.s.length
    · have hlI : (j : Int) < (S.s.length : Int) := by omega
      have hgq := List.getElem?_eq_getElem hlt
      have hct := any_take S.s canGo j _ hgq
      rw [← hj.out.2] at hct
      cases b with
      | true =>
        have HQ : Hid ((S.s.take (j + 1)).any canGo = true) := Lib.hid (by rw [hct]; rfl)
        clear hct hgq
        go_wp2_with fail
        go_roundg (gk - 1)
        case measure => have := hj.out; omega
        case rel => exact ⟨j + 1, true, rfl, (by go_num), Lib.hid ⟨(by have := hj.out; omega), HQ.out.symm⟩, rfl⟩
      | false =>
        rw [Bool.false_or] at hct
        cases hsj : S.s[j] with
        | none =>
          rw [hsj] at hgq hct
          have cl := HR.out.free HS.out hgq
          have HQ : Hid ((S.s.take (j + 1)).any canGo = false) := Lib.hid hct
          clear hct hgq hsj
          go_wp2_with fail
          go_roundg (gk - 1)
          case measure => have := hj.out; omega
          case rel => exact ⟨j + 1, false, rfl, (by go_num), Lib.hid ⟨(by have := hj.out; omega), HQ.out.symm⟩, rfl⟩
        | some l =>
          rw [hsj] at hgq hct
          obtain ⟨cl, _, cp, _⟩ := HR.out.live HS.out hgq
          have HQ : Hid ((S.s.take (j + 1)).any canGo = (l.pins == 0)) := Lib.hid hct
          clear hct hgq hsj
          go_wp2_with fail
          go_roundg (gk - 1)
          case measure => have := hj.out; omega
          case rel => exact ⟨j + 1, l.pins == 0, rfl, (by go_num), Lib.hid ⟨(by have := hj.out; omega), HQ.out.symm⟩, rfl⟩
    · have HQ : Hid (S.s.any canGo = b) := Lib.hid (by rw [hj.out.2, List.take_of_length_le (by omega)])
      cases b with
      | false =>
        have HV := Lib.hid (victimS_no HQ.out)
        go_wp2_with fail
        go_ret2
        exact ⟨by rw [HV.out]; rfl, by rw [HV.out]; exact HR.out, Ex.refl _ _⟩
      | true =>
        obtain ⟨p, hp, hv⟩ := victimS_yes HS.out HQ.out
        have HV := Lib.hid hv
        have H0 : Hid (∃ S' : PS, clock 600 S' = some p ∧ RefAt w r q S' ∧ S'.Ok Kb ∧ S'.s.length = S.s.length ∧ Ex (RB r q) w w) := Lib.hid ⟨S, hp, HR.out, HS.out, rfl, Ex.refl _ _⟩
        clear hp hv
        go_wp2_with fail
        go_loopg [6] 600 (fun kk x6 wr => Hid (∃ S' : PS, clock kk S' = some p ∧ RefAt wr r q S' ∧ S'.Ok Kb ∧ S'.s.length = S.s.length ∧ Ex (RB r q) w wr))
        case atStart => exact H0
        case round =>
          obtain ⟨S', hc, hp, hs, hl, hx⟩ := hrel.out
          clear hrel H0 hj HQ
          obtain ⟨kk, rfl⟩ : ∃ kk, gk = kk + 1 := by
            cases gk with
            | zero => cases hc
            | succ n => exact ⟨n, rfl⟩
          have hlt' := hs.hand
          have hh := hp.c1
          have hc0 := hp.c0
          have fh := hp.head.frozen 1
          have hle := hs.len
          have hw : IntKind.i64.wrap ((S'.hand : Int) + 1) = ((S'.hand + 1 : Nat) : Int) := by rw [IntWalk.i64_in _ (by omega)]; omega
          have hnE : S'.s ≠ [] := fun e => by rw [e] at hlt'; exact absurd hlt' (by simp)
          have HL := Lib.hid hl
          clear hl
          have hn0 : (S'.s.length : Int) ≠ 0 := by omega
          have hI : (S'.hand : Int) < (S'.s.length : Int) := by omega
          have U : Up (fun _ => False) wr.drew (fun u => u.cell? ⟨r, 0, none⟩ = some (.slice (some ⟨q, 0, none⟩) S'.s.length S'.s.length) ∧ u.cell? ⟨r, 1, none⟩ = some (.int .i64 (S'.hand : Int))) := (Up.cell (w := wr.drew) hc0 id).and (Up.cell (w := wr.drew) hh id)
          go_wp2_with fail
          refine wp_region_seq (fun _ => False) [] [(0, true), (1, true), (2, true), (3, true), (4, true), (5, true), (6, true), (7, true), (8, true), (9, true)] (by kernel_rfl) (by kernel_rfl) (fun _ _ d _ _ h => by cases d <;> exact h) rfl (by kernel_rfl) ?_
          refine seq_at (some 42) (v := ?_) rfl (by kernel_rfl) (by kernel_rfl) ?_ ?_
          rotate_left
          · intro w' hw'
            obtain ⟨q0, q1⟩ := U w' hw'
            go_simp
            try with_reducible rfl
          simp only [Act.put, List.setIfInBounds_toArray, List.set_cons_zero, List.set_cons_succ]
          refine seq_at (some 43) (v := ?_) rfl (by kernel_rfl) (by kernel_rfl) ?_ ?_
          rotate_left
          · intro w' hw'
            obtain ⟨q0, q1⟩ := U w' hw'
            go_simp
            try with_reducible rfl
          simp only [Act.put, List.setIfInBounds_toArray, List.set_cons_zero, List.set_cons_succ]
          refine seq_at (some 44) (v := ?_) rfl (by kernel_rfl) (by kernel_rfl) ?_ ?_
          rotate_left
          · intro w' hw'
            obtain ⟨q0, q1⟩ := U w' hw'
            go_simp
            try with_reducible rfl
          simp only [Act.put, List.setIfInBounds_toArray, List.set_cons_zero, List.set_cons_succ]
          refine seq_at (some 45) (v := ?_) rfl (by kernel_rfl) (by kernel_rfl) ?_ ?_
          rotate_left
          · intro w' hw'
            obtain ⟨q0, q1⟩ := U w' hw'
            go_simp
            try with_reducible rfl
          simp only [Act.put, List.setIfInBounds_toArray, List.set_cons_zero, List.set_cons_succ]
          refine seq_at (some 46) (v := ?_) rfl (by kernel_rfl) (by kernel_rfl) ?_ ?_
          rotate_left
          · intro w' hw'
            obtain ⟨q0, q1⟩ := U w' hw'
            go_simp
            try with_reducible rfl
          simp only [Act.put, List.setIfInBounds_toArray, List.set_cons_zero, List.set_cons_succ]
          refine seq_at (some 47) (v := ?_) rfl (by kernel_rfl) (by kernel_rfl) ?_ ?_
          rotate_left
          · intro w' hw'
            obtain ⟨q0, q1⟩ := U w' hw'
            go_simp
            try with_reducible rfl
          simp only [Act.put, List.setIfInBounds_toArray, List.set_cons_zero, List.set_cons_succ]
          refine seq_at (some 48) (v := ?_) rfl (by kernel_rfl) (by kernel_rfl) ?_ ?_
          rotate_left
          · intro w' hw'
            obtain ⟨q0, q1⟩ := U w' hw'
            go_simp
            try with_reducible rfl
          simp only [Act.put, List.setIfInBounds_toArray, List.set_cons_zero, List.set_cons_succ]
          refine seq_at (some 49) (v := ?_) rfl (by kernel_rfl) (by kernel_rfl) ?_ ?_
          rotate_left
          · intro w' hw'
            obtain ⟨q0, q1⟩ := U w' hw'
            go_simp
            try with_reducible rfl
          simp only [Act.put, List.setIfInBounds_toArray, List.set_cons_zero, List.set_cons_succ]
          refine seq_at (some 50) (v := ?_) rfl (by kernel_rfl) (by kernel_rfl) ?_ ?_
          rotate_left
          · intro w' hw'
            obtain ⟨q0, q1⟩ := U w' hw'
            go_simp
            try with_reducible rfl
          simp only [Act.put, List.setIfInBounds_toArray, List.set_cons_zero, List.set_cons_succ]
          refine seq_at (some 6) (v := ?_) rfl (by kernel_rfl) (by kernel_rfl) ?_ ?_
          rotate_left
          · intro w' hw'
            obtain ⟨q0, q1⟩ := U w' hw'
            go_simp
            try with_reducible rfl
          simp only [Act.put, List.setIfInBounds_toArray, List.set_cons_zero, List.set_cons_succ]
          refine seq_nil ?_
          go_wp2_with fail
          have U2 : Up (fun _ => False) wr.drew.drew (fun u => u.cell? ⟨r, 0, none⟩ = some (.slice (some ⟨q, 0, none⟩) S'.s.length S'.s.length) ∧ u.cell? ⟨r, 1, none⟩ = some (.int .i64 (S'.hand : Int))) := (Up.cell (w := wr.drew.drew) hc0 id).and (Up.cell (w := wr.drew.drew) hh id)
          refine wp_region_seq (fun _ => False) [14] [(0, true), (1, true), (2, true), (3, true), (4, true), (5, true), (6, true), (7, true), (8, true), (9, true), (10, true), (11, true), (12, false), (13, true), (14, false)] (by kernel_rfl) (by kernel_rfl) (fun _ _ d _ _ h => by cases d <;> exact h) rfl (by kernel_rfl) ?_
          refine seq_at (some 51) (v := ?_) rfl (by kernel_rfl) (by kernel_rfl) ?_ ?_
          rotate_left
          · intro w' hw'
            obtain ⟨q0, q1⟩ := U2 w' hw'
            go_simp
            try with_reducible rfl
          simp only [Act.put, List.setIfInBounds_toArray, List.set_cons_zero, List.set_cons_succ]
          refine seq_at (some 52) (v := ?_) rfl (by kernel_rfl) (by kernel_rfl) ?_ ?_
          rotate_left
          · intro w' hw'
            obtain ⟨q0, q1⟩ := U2 w' hw'
            go_simp
            try with_reducible rfl
          simp only [Act.put, List.setIfInBounds_toArray, List.set_cons_zero, List.set_cons_succ]
          refine seq_at (some 53) (v := ?_) rfl (by kernel_rfl) (by kernel_rfl) ?_ ?_
          rotate_left
          · intro w' hw'
            obtain ⟨q0, q1⟩ := U2 w' hw'
            go_simp
            try with_reducible rfl
          simp only [Act.put, List.setIfInBounds_toArray, List.set_cons_zero, List.set_cons_succ]
          refine seq_at (some 54) (v := ?_) rfl (by kernel_rfl) (by kernel_rfl) ?_ ?_
          rotate_left
          · intro w' hw'
            obtain ⟨q0, q1⟩ := U2 w' hw'
            go_simp
            try with_reducible rfl
          simp only [Act.put, List.setIfInBounds_toArray, List.set_cons_zero, List.set_cons_succ]
          refine seq_at (some 55) (v := ?_) rfl (by kernel_rfl) (by kernel_rfl) ?_ ?_
          rotate_left
          · intro w' hw'
            obtain ⟨q0, q1⟩ := U2 w' hw'
            go_simp
            try with_reducible rfl
          simp only [Act.put, List.setIfInBounds_toArray, List.set_cons_zero, List.set_cons_succ]
          refine seq_at (some 56) (v := ?_) rfl (by kernel_rfl) (by kernel_rfl) ?_ ?_
          rotate_left
          · intro w' hw'
            obtain ⟨q0, q1⟩ := U2 w' hw'
            go_simp
            try with_reducible rfl
          simp only [Act.put, List.setIfInBounds_toArray, List.set_cons_zero, List.set_cons_succ]
          refine seq_at (some 57) (v := ?_) rfl (by kernel_rfl) (by kernel_rfl) ?_ ?_
          rotate_left
          · intro w' hw'
            obtain ⟨q0, q1⟩ := U2 w' hw'
            go_simp
            try with_reducible rfl
          simp only [Act.put, List.setIfInBounds_toArray, List.set_cons_zero, List.set_cons_succ]
          refine seq_at (some 58) (v := ?_) rfl (by kernel_rfl) (by kernel_rfl) ?_ ?_
          rotate_left
          · intro w' hw'
            obtain ⟨q0, q1⟩ := U2 w' hw'
            go_simp
            try with_reducible rfl
          simp only [Act.put, List.setIfInBounds_toArray, List.set_cons_zero, List.set_cons_succ]
          refine seq_at (some 59) (v := ?_) rfl (by kernel_rfl) (by kernel_rfl) ?_ ?_
          rotate_left
          · intro w' hw'
            obtain ⟨q0, q1⟩ := U2 w' hw'
            go_simp
            try with_reducible rfl
          simp only [Act.put, List.setIfInBounds_toArray, List.set_cons_zero, List.set_cons_succ]
          refine seq_at (some 60) (v := ?_) rfl (by kernel_rfl) (by kernel_rfl) ?_ ?_
          rotate_left
          · intro w' hw'
            obtain ⟨q0, q1⟩ := U2 w' hw'
            go_simp
            try with_reducible rfl
          simp only [Act.put, List.setIfInBounds_toArray, List.set_cons_zero, List.set_cons_succ]
          refine seq_at (some 61) (v := ?_) rfl (by kernel_rfl) (by kernel_rfl) ?_ ?_
          rotate_left
          · intro w' hw'
            obtain ⟨q0, q1⟩ := U2 w' hw'
            go_simp
            try with_reducible rfl
          simp only [Act.put, List.setIfInBounds_toArray, List.set_cons_zero, List.set_cons_succ]
          refine seq_at (some 62) (v := ?_) rfl (by kernel_rfl) (by kernel_rfl) ?_ ?_
          rotate_left
          · intro w' hw'
            obtain ⟨q0, q1⟩ := U2 w' hw'
            go_simp
            try with_reducible rfl
          simp only [Act.put, List.setIfInBounds_toArray, List.set_cons_zero, List.set_cons_succ]
          refine seq_eff rfl (by kernel_rfl) (fun K hK => ?_)
          go_simp
          refine hK.out _ _ (.inl (Ex.refl _ _)) ?_
          refine seq_at (some 64) (v := ?_) rfl (by kernel_rfl) (by kernel_rfl) ?_ ?_
          rotate_left
          · intro w' hw'
            obtain ⟨q0, q1⟩ := U2 w' hw'
            go_simp
            try with_reducible rfl
          simp only [Act.put, List.setIfInBounds_toArray, List.set_cons_zero, List.set_cons_succ]
          have fh2 : wr.drew.drew.frozen? ⟨r, 1, none⟩ = false := fh
          have hh2 : wr.drew.drew.cell? ⟨r, 1, none⟩ = some (.int .i64 (S'.hand : Int)) := hh
          refine seq_eff rfl (by kernel_rfl) (fun K hK => ?_)
          go_simp
          show K (Act.put _ none undef) _
          simp only [Act.put]
          refine hK.out _ _ (.inr (by simp)) ?_
          refine seq_nil ?_
          have hmod : ((S'.hand : Int) + 1).tmod (S'.s.length : Int) = (((S'.hand + 1) % S'.s.length : Nat) : Int) := by rw [Int.tmod_eq_emod_of_nonneg (by omega)]; push_cast; rfl
          rw [hmod]
          have hk2 : (S'.hand + 1) % S'.s.length < S'.s.length := Nat.mod_lt _ (by omega)
          have HT := hp.turn ((S'.hand + 1) % S'.s.length)
          have hTs := turn_ok hs hk2
          have hx2 : Ex (RB r q) w (wr.setCell ⟨r, 1, none⟩ (.int .i64 (((S'.hand + 1) % S'.s.length : Nat) : Int))).drew.drew := (hx.trans (setCell_ex (T := RB r q) 1 _ wr (.inl rfl))).trans ((Ex.drew _ _).trans (Ex.drew _ _))
          have HT2 : RefAt (wr.setCell ⟨r, 1, none⟩ (.int .i64 (((S'.hand + 1) % S'.s.length : Nat) : Int))).drew.drew r q { S' with hand := (S'.hand + 1) % S'.s.length } := HT.kept (T := fun _ => False) ((Ex.drew _ _).trans (Ex.drew _ _)) id id
          generalize (wr.setCell ⟨r, 1, none⟩ (.int .i64 (((S'.hand + 1) % S'.s.length : Nat) : Int))).drew.drew = wt at *
          have hgs : S'.s[S'.hand]? = some S'.s[S'.hand] := List.getElem?_eq_getElem hlt'
          simp only [clock, hgs, Option.getD_some] at hc
          clear U U2 fh2 hh2 hh hc0 fh HT hk2 hmod hw hn0 hI
          cases hsl : S'.s[S'.hand] with
          | none =>
            rw [hsl] at hgs hc
            dsimp only at hc
            have f0 := HT2.free hTs (i := S'.hand) hgs
            have HC := Lib.hid (⟨_, hc, HT2, hTs, HL.out, hx2⟩ : ∃ S' : PS, clock kk S' = some p ∧ RefAt wt r q S' ∧ S'.Ok Kb ∧ S'.s.length = S.s.length ∧ Ex (RB r q) w wt)
            clear hgs hc hsl HT2 hTs hx2
            go_wp2_with fail
            go_roundg kk
            case measure => omega
            case rel => exact HC
          | some l =>
            rw [hsl] at hgs hc
            dsimp only at hc
            obtain ⟨f0, f3, f2, f1⟩ := HT2.live hTs (i := S'.hand) hgs
            obtain ⟨l1, l2, l3, l4⟩ := hTs.live S'.hand l hgs
            by_cases hpn : 0 < l.pins
            · rw [if_pos hpn] at hc
              have HC := Lib.hid (⟨_, hc, HT2, hTs, HL.out, hx2⟩ : ∃ S' : PS, clock kk S' = some p ∧ RefAt wt r q S' ∧ S'.Ok Kb ∧ S'.s.length = S.s.length ∧ Ex (RB r q) w wt)
              clear hgs hc hsl HT2 hTs hx2 l1 l2 l3 l4
              go_wp2_with fail
              go_roundg kk
              case measure => omega
              case rel => exact HC
            · rw [if_neg hpn] at hc
              cases hus : l.used with
              | true =>
                rw [if_pos hus] at hc
                rw [hus] at f1
                have hok : PS.Ok Kb (PS.put { S' with hand := (S'.hand + 1) % S'.s.length } S'.hand (some { l with used := false })) := hTs.same (l := l) hgs ⟨l1, l2, l3, l4⟩ rfl
                have HT3 := HT2.set hTs (i := S'.hand) (j := 104) (x := some l) (y := some { l with used := false }) hgs (.bool false) (by omega) (sc_used l l1 false)
                have fz := HT2.row.frozen (S'.hand * 105 + 104)
                have HC := Lib.hid (⟨PS.put { S' with hand := (S'.hand + 1) % S'.s.length } S'.hand (some { l with used := false }), hc, HT3, hok, by simp [PS.put]; exact HL.out, hx2.trans (setCell_ex (T := RB r q) _ _ _ (.inr rfl))⟩ : ∃ Sx : PS, clock kk Sx = some p ∧ RefAt (wt.setCell ⟨q, S'.hand * 105 + 104, none⟩ (.bool false)) r q Sx ∧ Sx.Ok Kb ∧ Sx.s.length = S.s.length ∧ Ex (RB r q) w (wt.setCell ⟨q, S'.hand * 105 + 104, none⟩ (.bool false)))
                clear hgs hc hsl HT2 hTs hx2 l1 l2 l3 l4 HT3 hok
                go_wp2_with fail
                go_roundg kk
                case measure => omega
                case rel => exact HC
              | false =>
                rw [if_neg (by rw [hus]; decide)] at hc
                rw [hus] at f1
                injection hc with hc
                have HC : Hid (RefAt wt r q p.2) := Lib.hid (by rw [← hc]; exact HT2)
                have HX := Lib.hid hx2
                have HPg : Hid (p.1 = l.f.page) := Lib.hid (by rw [← hc])
                clear hgs hc hsl HT2 hTs hx2 l1 l2 l3 l4
                go_wp2_with fail
                go_ret2
                exact ⟨by rw [HV.out]; dsimp only; rw [HPg.out]; rfl, by rw [HV.out]; exact HC.out, HX.out⟩
end Go.Proofs.Ytjbjfpbhacpeiaa
