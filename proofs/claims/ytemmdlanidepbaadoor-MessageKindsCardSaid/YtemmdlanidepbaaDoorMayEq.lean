/- The two say the same: which messages may be. Plain Lean. -/
import Derived.Test.YtemmdlanidepbaaDoorRefMay
import Derived.Test.YtemmdlanidepbaaDoorReadMsg
namespace Go.Proofs.YtemmdlanidepbaaDoor
open Go.RowKit
set_option linter.unusedSimpArgs false

set_option maxHeartbeats 4000000 in
theorem refMay_eq (m : Msg) : refMayB m = mayM m := by
  obtain ⟨k, page, op, mode, dest, psn, dirty, body⟩ := m
  by_cases hk : 1 ≤ k ∧ k ≤ 13
  · rw [Bool.eq_iff_iff]
    by_cases hb : body = List.replicate 96 0
    · rcases kind_cases hk with rfl | rfl | rfl | rfl | rfl | rfl | rfl | rfl | rfl | rfl | rfl | rfl | rfl
      all_goals
        simp [-List.reduceReplicate, refMayB, mayM, msgB, bareM, may1, may2, may3, may4, hasB, fieldsOf, okF, setF, bodyZ, hb]
        try (constructor <;> intro h <;> simp_all [-List.reduceReplicate] <;> omega)
    · have hb' : ¬ List.replicate 96 0 = body := fun e => hb e.symm
      rcases kind_cases hk with rfl | rfl | rfl | rfl | rfl | rfl | rfl | rfl | rfl | rfl | rfl | rfl | rfl
      all_goals
        simp [-List.reduceReplicate, refMayB, mayM, msgB, bareM, may1, may2, may3, may4, hasB, fieldsOf, okF, setF, bodyZ, hb, hb']
        try (constructor <;> intro h <;> simp_all [-List.reduceReplicate] <;> omega)
  · have e : fieldsOf k = [] := fieldsOf_out hk
    simp [refMayB, mayM, may1, e]
theorem refMay_any (m : Msg) (hm : m.Ok) (w : World) : Calls Tryd.prog 11 #[.agg (mcells m)] w (OkR w (mayM m)) := by
  have := refMay_walk m hm w
  rwa [refMay_eq] at this
end Go.Proofs.YtemmdlanidepbaaDoor
