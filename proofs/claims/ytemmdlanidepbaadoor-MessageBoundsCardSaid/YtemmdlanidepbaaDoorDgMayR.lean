/- Contracts of millpondref18.MayDatagram. -/
import Derived.Test.YtemmdlanidepbaaDoorDgram
namespace Go.Proofs.YtemmdlanidepbaaDoor
open Go.RowKit
set_option linter.unusedSimpArgs false
set_option maxRecDepth 100000

set_option maxHeartbeats 16000000 in
theorem refMayD_walk (d : Dg) (A : Option Addr) (c : Nat) (w : World) (hl : d.body.length ≤ 140737488355328) : Calls Tryd.prog 28 #[.agg (dcells d A c)] w (OkD w (mayD d)) := by
  have HB0 : Hid (Below w.heap.size w (w.alloc (.cells #[.int .i64 d.fr, .int .i64 d.dst, .int .i64 d.vw, .int .i64 d.sq, .int .i64 d.ak, .slice A d.body.length c] 53))) := Lib.hid ((Below.refl _ _).alloc (Nat.le_refl _) _)
  obtain ⟨R, hR⟩ : ∃ R, mayD d = R := ⟨_, rfl⟩
  rw [hR]
  have HR := Lib.hid hR
  clear hR
  unfold mayD nodeB badN at HR
  unfold dcells
  obtain ⟨fr, dst, vw, sq, ak, body⟩ := d
  simp only at *
  generalize body.length = n at *
  by_cases h1 : fr < 0
  · go_enter Tryd.func28, Tryd.ntmps28
    go_wp2_with fail
    go_ret
    exact ⟨by rw [← HR.out]; simp; omega, HB0.out⟩
  · by_cases h2 : 8 ≤ fr
    · go_enter Tryd.func28, Tryd.ntmps28
      go_wp2_with fail
      go_ret
      exact ⟨by rw [← HR.out]; simp; omega, HB0.out⟩
    · by_cases h3' : dst < 0
      · go_enter Tryd.func28, Tryd.ntmps28
        go_wp2_with fail
        go_ret
        exact ⟨by rw [← HR.out]; simp; omega, HB0.out⟩
      · by_cases h4' : 8 ≤ dst
        · go_enter Tryd.func28, Tryd.ntmps28
          go_wp2_with fail
          go_ret
          exact ⟨by rw [← HR.out]; simp; omega, HB0.out⟩
        · by_cases h3 : fr = dst
          · have hb3 : (fr == dst) = true := by simpa using h3
            have E3 := Lib.hid h3
            clear h3
            go_enter Tryd.func28, Tryd.ntmps28
            go_wp2_with fail
            go_ret
            exact ⟨by rw [← HR.out]; simp [E3.out], HB0.out⟩
          · have hb3 : (fr == dst) = false := by simpa using h3
            have E3 := Lib.hid h3
            clear h3
            by_cases h5 : 256 < n
            · go_enter Tryd.func28, Tryd.ntmps28
              go_wp2_with fail
              go_ret
              exact ⟨by rw [← HR.out]; simp; omega, HB0.out⟩
            · by_cases h6 : 0 ≤ vw
              · by_cases h7 : vw ≤ 4611686018427387904
                · by_cases h8 : 0 ≤ sq
                  · by_cases h9 : sq ≤ 4611686018427387904
                    · by_cases h10 : 0 ≤ ak
                      · by_cases h11 : ak ≤ 4611686018427387904
                        · by_cases h12 : 0 < sq
                          · go_enter Tryd.func28, Tryd.ntmps28
                            go_wp2_with fail
                            go_ret
                            exact ⟨by have e3 := E3.out; rw [← HR.out]; simp; omega, HB0.out⟩
                          · by_cases h13 : 0 < n
                            · have q : ((n : Int) == 0) = false := by simp; omega
                              go_enter Tryd.func28, Tryd.ntmps28
                              go_wp2_with fail
                              go_ret
                              exact ⟨by have e3 := E3.out; rw [← HR.out]; simp; omega, HB0.out⟩
                            · have q : ((n : Int) == 0) = true := by simp; omega
                              go_enter Tryd.func28, Tryd.ntmps28
                              go_wp2_with fail
                              go_ret
                              exact ⟨by have e3 := E3.out; rw [← HR.out]; simp; omega, HB0.out⟩
                        · go_enter Tryd.func28, Tryd.ntmps28
                          go_wp2_with fail
                          go_ret
                          exact ⟨by rw [← HR.out]; simp; omega, HB0.out⟩
                      · go_enter Tryd.func28, Tryd.ntmps28
                        go_wp2_with fail
                        go_ret
                        exact ⟨by rw [← HR.out]; simp; omega, HB0.out⟩
                    · go_enter Tryd.func28, Tryd.ntmps28
                      go_wp2_with fail
                      go_ret
                      exact ⟨by rw [← HR.out]; simp; omega, HB0.out⟩
                  · go_enter Tryd.func28, Tryd.ntmps28
                    go_wp2_with fail
                    go_ret
                    exact ⟨by rw [← HR.out]; simp; omega, HB0.out⟩
                · go_enter Tryd.func28, Tryd.ntmps28
                  go_wp2_with fail
                  go_ret
                  exact ⟨by rw [← HR.out]; simp; omega, HB0.out⟩
              · go_enter Tryd.func28, Tryd.ntmps28
                go_wp2_with fail
                go_ret
                exact ⟨by rw [← HR.out]; simp; omega, HB0.out⟩
end Go.Proofs.YtemmdlanidepbaaDoor
