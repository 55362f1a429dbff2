/- Contract of wire.Join: all bytes, one behind the other, in a row of the call's own. -/
import Derived.Test.YtemmdlanidepbaaDoorWr
namespace Go.Proofs.YtemmdlanidepbaaDoor
open Go.RowKit

theorem flat_take (L : List (List UInt8)) (j : Nat) (hj : j < L.length) : (L.take (j + 1)).flatten = (L.take j).flatten ++ L[j] := by
  rw [List.take_succ_eq_append_getElem hj, List.flatten_append, List.flatten_cons, List.flatten_nil, List.append_nil]
theorem flat_le (L : List (List UInt8)) (j : Nat) : (L.take j).flatten.length ≤ L.flatten.length := by
  have : L.flatten = (L.take j).flatten ++ (L.drop j).flatten := by rw [← List.flatten_append, List.take_append_drop]
  rw [congrArg List.length this, List.length_append]; omega

end Go.Proofs.YtemmdlanidepbaaDoor
