/- The contracts of message.May, Put, Read, together; of the law's num. -/
import Derived.Test.YtemmdlanidepbaaDoorMay
import Derived.Test.YtemmdlanidepbaaDoorReadMsg2
import Derived.Test.YtemmdlanidepbaaDoorMayEq
namespace Go.Proofs.YtemmdlanidepbaaDoor
open Go.RowKit
set_option linter.unusedSimpArgs false
set_option maxRecDepth 100000

theorem mayC : MayC := fun m hm W => may_any m hm W
theorem msg_put_no (m : Msg) (hm : m.Ok) (hn : mayM m = false) (w : World) : Calls Tryd.prog 9 #[.agg (mcells m)] w (fun e w' => e = .returned (.tuple #[.slice none 0 0, .int .i64 2]) ∧ Below w.heap.size w w') :=
  put_no m hm w (mayC m hm) hn
theorem msg_put_yes (m : Msg) (hm : m.Ok) (hy : mayM m = true) (w : World) : Calls Tryd.prog 9 #[.agg (mcells m)] w (fun e w' => ∃ g c, e = .returned (.tuple #[.slice (some ⟨g, 0, none⟩) (putB m).length c, .int .i64 0]) ∧
    w'.ownsRow w.heap.size 5 1 (.slice (some ⟨g, 0, none⟩) (putB m).length c) (putB m).length (bv (putB m)) ∧ Below w.heap.size w w') :=
  put_yes m hm w (mayC m hm) hy
theorem msg_read (A : Option Addr) (c : Nat) (l : List UInt8) (w : World) (hA : At w A (bv l)) (hl : l.length ≤ 140737488355328) : Calls Tryd.prog 14 #[.slice A l.length c] w (ReadR w (readV l)) :=
  read_any mayC A c l w hA hl
theorem num18_any (n : Int) (w : World) : Calls Tryd.prog 12 #[.int .i64 n] w (fun e w' => e = .returned (.int .i64 n) ∧ w = w') := by
  go_enter Tryd.func12, Tryd.ntmps12
  go_wp2
  go_ret
  exact ⟨rfl, rfl⟩
theorem readV_ok (l : List UInt8) : (readV l).1.size = 103 := by
  unfold readV
  split
  · exact zero_size
  · split
    · rename_i m h
      unfold readM at h
      split at h
      · rename_i m' p hp
        split at h
        · cases h
        · split at h
          · injection h with h
            subst h
            exact mcells_size (parse_ok hp)
          · cases h
      · cases h
    · exact zero_size
theorem readV_all (l : List UInt8) : (readV l).1.all (·.oneCell') = true := by
  unfold readV
  split
  · exact zero_all
  · split
    · exact mcells_all _
    · exact zero_all
end Go.Proofs.YtemmdlanidepbaaDoor
