/- Contracts of message.may, millpondref18.MayDatagram. -/
import Derived.Test.YtemmdlanidepbaaDoorDgram
namespace Go.Proofs.YtemmdlanidepbaaDoor
open Go.RowKit
set_option linter.unusedSimpArgs false
set_option maxRecDepth 100000

set_option maxHeartbeats 8000000 in
theorem mayD_walk (d : Dg) (A : Option Addr) (c : Nat) (w : World) (hl : d.body.length ≤ 140737488355328) : Calls Tryd.prog 67 #[.agg (dcells d A c)] w (OkD w (mayD d)) := by
  have N1 := Lib.hid (fun u => node_any d.fr u)
  have N2 := Lib.hid (fun u => node_any d.dst u)
  have HB0 : Hid (Below w.heap.size w (w.alloc (.cells #[.int .i64 d.fr, .int .i64 d.dst, .int .i64 d.vw, .int .i64 d.sq, .int .i64 d.ak, .slice A d.body.length c] 53))) := Lib.hid ((Below.refl _ _).alloc (Nat.le_refl _) _)
  have HCF : Hid (∀ u A c, At u A (iv [d.vw, d.sq, d.ak]) → Calls Tryd.prog 84 #[.slice A 3 c, .func (.func 85) #[] #[]] u (fun e w' => e = .returned (.bool (badN d.vw || (badN d.sq || badN d.ak))) ∧ u = w')) := Lib.hid (fun u A c h => by
    have := containsFunc_any A c [d.vw, d.sq, d.ak] u h (by simp)
    simpa using this)
  obtain ⟨R, hR⟩ : ∃ R, mayD d = R := ⟨_, rfl⟩
  rw [hR]
  have HR := Lib.hid hR
  clear hR
  unfold dcells
  have HRn := Lib.hid HR.out
  unfold mayD at HRn
  clear HR
  have HR : Hid ((nodeB d.fr && nodeB d.dst && !(d.fr == d.dst) && !decide (256 < d.body.length) && !((d.sq == 0) && decide (0 < d.body.length)) && !(badN d.vw || (badN d.sq || badN d.ak))) = R) := HRn
  clear HRn
  generalize d.body.length = n at *
  have HAA : Hid (At ((w.alloc (.cells #[.int .i64 d.fr, .int .i64 d.dst, .int .i64 d.vw, .int .i64 d.sq, .int .i64 d.ak, .slice A n c] 53)).alloc (.cells #[.int .i64 d.vw, .int .i64 d.sq, .int .i64 d.ak] 2)) (some ⟨w.heap.size + 1, 0, none⟩) (iv [d.vw, d.sq, d.ak])) := Lib.hid (by
    have h := at_ints (w.alloc (.cells #[.int .i64 d.fr, .int .i64 d.dst, .int .i64 d.vw, .int .i64 d.sq, .int .i64 d.ak, .slice A n c] 53)) 2 [d.vw, d.sq, d.ak] #[.int .i64 d.vw, .int .i64 d.sq, .int .i64 d.ak] rfl
    rw [World.size_alloc] at h
    exact h)
  cases hb1 : nodeB d.fr with
  | false =>
    rw [hb1] at N1
    have E1 := Lib.hid hb1
    clear hb1
    go_enter Tryd.func67, Tryd.ntmps67
    go_wp2_with fail
    refine (N1.out _).mono ?_
    rintro e w' ⟨rfl, rfl⟩
    go_wp2_with fail
    go_ret
    exact ⟨by rw [← HR.out]; simp [E1.out], HB0.out⟩
  | true =>
    rw [hb1] at N1
    have E1 := Lib.hid hb1
    clear hb1
    cases hb2 : nodeB d.dst with
    | false =>
      rw [hb2] at N2
      have E2 := Lib.hid hb2
      clear hb2
      go_enter Tryd.func67, Tryd.ntmps67
      go_wp2_with fail
      refine (N1.out _).mono ?_
      rintro e w' ⟨rfl, rfl⟩
      go_wp2_with fail
      refine (N2.out _).mono ?_
      rintro e w' ⟨rfl, rfl⟩
      go_wp2_with fail
      go_ret
      exact ⟨by rw [← HR.out]; simp [E1.out, E2.out], HB0.out⟩
    | true =>
      rw [hb2] at N2
      have E2 := Lib.hid hb2
      clear hb2
      by_cases h3 : d.fr = d.dst
      · have hb3 : (d.fr == d.dst) = true := by simpa using h3
        have E3 := Lib.hid hb3
        clear h3
        go_enter Tryd.func67, Tryd.ntmps67
        go_wp2_with fail
        refine (N1.out _).mono ?_
        rintro e w' ⟨rfl, rfl⟩
        go_wp2_with fail
        refine (N2.out _).mono ?_
        rintro e w' ⟨rfl, rfl⟩
        go_wp2_with fail
        go_ret
        exact ⟨by rw [← HR.out]; simp [E1.out, E2.out, E3.out], HB0.out⟩
      · have hb3 : (d.fr == d.dst) = false := by simpa using h3
        have E3 := Lib.hid hb3
        clear h3
        by_cases h4 : 256 < n
        · have E4 := Lib.hid h4
          go_enter Tryd.func67, Tryd.ntmps67
          go_wp2_with fail
          refine (N1.out _).mono ?_
          rintro e w' ⟨rfl, rfl⟩
          go_wp2_with fail
          refine (N2.out _).mono ?_
          rintro e w' ⟨rfl, rfl⟩
          go_wp2_with fail
          go_ret
          exact ⟨by rw [← HR.out]; simp [E1.out, E2.out, E3.out, E4.out], HB0.out⟩
        · have E4 := Lib.hid h4
          by_cases h5 : d.sq = 0
          · have hb5 : (d.sq == 0) = true := by simpa using h5
            have E5 := Lib.hid hb5
            clear h5
            by_cases h6 : 0 < n
            · have E6 := Lib.hid h6
              go_enter Tryd.func67, Tryd.ntmps67
              go_wp2_with fail
              refine (N1.out _).mono ?_
              rintro e w' ⟨rfl, rfl⟩
              go_wp2_with fail
              refine (N2.out _).mono ?_
              rintro e w' ⟨rfl, rfl⟩
              go_wp2_with fail
              go_ret
              exact ⟨by rw [← HR.out]; simp [E1.out, E2.out, E3.out, E4.out, E5.out, E6.out], HB0.out⟩
            · have E6 := Lib.hid h6
              go_enter Tryd.func67, Tryd.ntmps67
              go_wp2_with fail
              refine (N1.out _).mono ?_
              rintro e w' ⟨rfl, rfl⟩
              go_wp2_with fail
              refine (N2.out _).mono ?_
              rintro e w' ⟨rfl, rfl⟩
              go_wp2_with fail
              refine (HCF.out _ _ 3 HAA.out).mono ?_
              rintro e w' ⟨rfl, rfl⟩
              go_wp2_with fail
              go_ret
              exact ⟨by rw [← HR.out]; simp [E1.out, E2.out, E3.out, E4.out, E5.out, E6.out], HB0.out.alloc HB0.out.size _⟩
          · have hb5 : (d.sq == 0) = false := by simpa using h5
            have E5 := Lib.hid hb5
            clear h5
            go_enter Tryd.func67, Tryd.ntmps67
            go_wp2_with fail
            refine (N1.out _).mono ?_
            rintro e w' ⟨rfl, rfl⟩
            go_wp2_with fail
            refine (N2.out _).mono ?_
            rintro e w' ⟨rfl, rfl⟩
            go_wp2_with fail
            refine (HCF.out _ _ 3 HAA.out).mono ?_
            rintro e w' ⟨rfl, rfl⟩
            go_wp2_with fail
            go_ret
            exact ⟨by rw [← HR.out]; simp [E1.out, E2.out, E3.out, E4.out, E5.out], HB0.out.alloc HB0.out.size _⟩
end Go.Proofs.YtemmdlanidepbaaDoor
