/- Contract of millpondref18.Fields. -/
import Derived.Test.YtemmdlanidepbaaDoorMsgCells
namespace Go.Proofs.YtemmdlanidepbaaDoor
open Go.RowKit
set_option linter.unusedSimpArgs false
set_option maxRecDepth 100000

/-- a slice of fields that can be read -/
def FldsR (w : World) (l : List Int) (e : Ending) (w' : World) : Prop := ∃ A c, e = .returned (.slice A l.length c) ∧ At w' A (iv l) ∧ Below w.heap.size w w'
theorem fldsR_lit (w : World) (l : List Int) (cs : Array Value) (h : cs.toList = iv l) (n c : Nat) (hn : n = l.length) : FldsR w l (.returned (.slice (some ⟨w.heap.size, 0, none⟩) n c)) (w.alloc (.cells cs 73)) := by
  subst hn
  exact ⟨_, c, rfl, at_ints w _ l cs h, (Below.refl _ _).alloc (Nat.le_refl _) _⟩
set_option maxHeartbeats 8000000 in
theorem rFields_any (k : Int) (w : World) : Calls Tryd.prog 21 #[.int .i64 k] w (FldsR w (fieldsOf k)) := by
  by_cases h : 1 ≤ k ∧ k ≤ 13
  · rcases kind_cases h with rfl | rfl | rfl | rfl | rfl | rfl | rfl | rfl | rfl | rfl | rfl | rfl | rfl
    all_goals
      clear h
      go_enter Tryd.func21, Tryd.ntmps21
      go_wp2_with fail
      go_ret
      exact fldsR_lit w _ _ rfl _ _ rfl
  · rw [fieldsOf_out h]
    have e1 : (k == 1) = false := by simp; omega
    have e2 : (k == 2) = false := by simp; omega
    have e3 : (k == 3) = false := by simp; omega
    have e4 : (k == 4) = false := by simp; omega
    have e5 : (k == 5) = false := by simp; omega
    have e6 : (k == 6) = false := by simp; omega
    have e7 : (k == 7) = false := by simp; omega
    have e8 : (k == 8) = false := by simp; omega
    have e9 : (k == 9) = false := by simp; omega
    have e10 : (k == 10) = false := by simp; omega
    have e11 : (k == 11) = false := by simp; omega
    have e12 : (k == 12) = false := by simp; omega
    have e13 : (k == 13) = false := by simp; omega
    clear h
    go_enter Tryd.func21, Tryd.ntmps21
    go_wp2_with fail
    go_ret
    exact ⟨none, 0, rfl, At.nil _ _, Below.refl _ _⟩
end Go.Proofs.YtemmdlanidepbaaDoor
