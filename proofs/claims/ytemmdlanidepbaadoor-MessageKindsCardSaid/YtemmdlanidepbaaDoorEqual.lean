/- Contract of bytes.Equal. -/
import Derived.Test.YtemmdlanidepbaaDoorNum
import Derived.Laws.BytesArg
import Derived.Laws.IdiomStrings
namespace Go.Proofs.YtemmdlanidepbaaDoor
open Go.RowKit
set_option linter.unusedSimpArgs false
set_option maxRecDepth 100000

theorem convert_at (w : World) (A : Option Addr) (c : Nat) (l : List UInt8) (h : At w A (bv l)) : (convert 28 9 (.slice A l.length c)).run Tryd.prog w = .ok (.string ⟨l.toArray⟩) w := by
  cases A with
  | none =>
    have : l = [] := by
      cases l with
      | nil => rfl
      | cons b l => obtain ⟨ad, e, _⟩ := h 0 (.int .u8 (b.toNat : Int)) (by simp [bv]); cases e
    subst this
    rw [run_convert_bytes_nil w 28 5 Tryd.underlying28 Tryd.underlying5 _ _ 9 Tryd.underlying9]
    rfl
  | some ad =>
    refine run_convert_bytes_back w 28 9 5 ad c l Tryd.underlying28 Tryd.underlying5 Tryd.underlying9 (fun j hj => ?_)
    obtain ⟨ad', e, hc⟩ := h j (.int .u8 (l[j].toNat : Int)) (by simp [bv, List.getElem?_eq_getElem hj])
    injection e with e
    subst e
    exact hc
set_option maxHeartbeats 4000000 in
theorem bytes_equal (A1 A2 : Option Addr) (c1 c2 : Nat) (l1 l2 : List UInt8) (w : World) (h1 : At w A1 (bv l1)) (h2 : At w A2 (bv l2)) :
    Calls Tryd.prog 54 #[.slice A1 l1.length c1, .slice A2 l2.length c2] w (fun e w' => e = .returned (.bool (decide (l1 = l2))) ∧ w' = w) := by
  have k1 := convert_at w A1 c1 l1 h1
  have k2 := convert_at w A2 c2 l2 h2
  have hb : (l1 == l2) = decide (l1 = l2) := by by_cases h : l1 = l2 <;> simp [h]
  go_enter Tryd.func54, Tryd.ntmps54
  go_wp2_with fail
  try rw [hb]
  go_ret
  exact ⟨rfl, rfl⟩
end Go.Proofs.YtemmdlanidepbaaDoor
