/- A literal of bytes. The contracts of message.May, Put, Read, together; of the law's num. The chapter's rows: closed facts on messages. -/
import Derived.Test.YtemmdlanidepbaaDoorRdBytes
import Derived.Test.YtemmdlanidepbaaDoorMay
import Derived.Test.YtemmdlanidepbaaDoorReadMsg
import Derived.Test.YtemmdlanidepbaaDoorMayEq
namespace Go.Proofs.YtemmdlanidepbaaDoor
open Go.RowKit
theorem at_lit (w : World) (l : List UInt8) (cs : Array Value) (h : cs.toList = bv l) : At (w.alloc (.cells cs 5)) (some ⟨w.heap.size, 0, none⟩) (bv l) := fun j u hj => by
  refine ⟨_, rfl, ?_⟩
  rw [add0, World.cell?_alloc_new, ← Array.getElem?_toList, h]
  exact hj
end Go.Proofs.YtemmdlanidepbaaDoor
namespace Go.Proofs.YtemmdlanidepbaaDoor
open Go.RowKit
set_option linter.unusedSimpArgs false
set_option maxRecDepth 100000

theorem mayC : MayC := fun m hm W => may_any m hm W
theorem msg_put_no (m : Msg) (hm : m.Ok) (hn : mayM m = false) (w : World) : Calls Tryd.prog 9 #[.agg (mcells m)] w (fun e w' => e = .returned (.tuple #[.slice none 0 0, .int .i64 2]) ∧ Below w.heap.size w w') :=
  put_no m hm w (mayC m hm) hn
theorem msg_put_yes (m : Msg) (hm : m.Ok) (hy : mayM m = true) (w : World) : Calls Tryd.prog 9 #[.agg (mcells m)] w (fun e w' => ∃ g c, e = .returned (.tuple #[.slice (some ⟨g, 0, none⟩) (putB m).length c, .int .i64 0]) ∧
    w'.ownsRow w.heap.size 5 1 (.slice (some ⟨g, 0, none⟩) (putB m).length c) (putB m).length (bv (putB m)) ∧ Below w.heap.size w w') :=
  put_yes m hm w (mayC m hm) hy
theorem msg_read (A : Option Addr) (c : Nat) (l : List UInt8) (w : World) (hA : At w A (bv l)) (hl : l.length ≤ 140737488355328) : Calls Tryd.prog 14 #[.slice A l.length c] w (ReadR w (readV l)) :=
  read_any mayC A c l w hA hl
theorem num18_any (n : Int) (w : World) : Calls Tryd.prog 12 #[.int .i64 n] w (fun e w' => e = .returned (.int .i64 n) ∧ w = w') := by
  go_enter Tryd.func12, Tryd.ntmps12
  go_wp2
  go_ret
  exact ⟨rfl, rfl⟩
theorem readV_ok (l : List UInt8) : (readV l).1.size = 103 := by
  unfold readV
  split
  · exact zero_size
  · split
    · rename_i m h
      unfold readM at h
      split at h
      · rename_i m' p hp
        split at h
        · cases h
        · split at h
          · injection h with h
            subst h
            exact mcells_size (parse_ok hp)
          · cases h
      · cases h
    · exact zero_size
theorem readV_all (l : List UInt8) : (readV l).1.all (·.oneCell') = true := by
  unfold readV
  split
  · exact zero_all
  · split
    · exact mcells_all _
    · exact zero_all
end Go.Proofs.YtemmdlanidepbaaDoor
namespace Go.Proofs.YtemmdlanidepbaaDoor
open Go.RowKit
set_option linter.unusedSimpArgs false
set_option maxRecDepth 100000

def W1 : Msg := ⟨1, 3, 0, 2, 0, 0, false, List.replicate 96 0⟩
def W2 : Msg := ⟨7, 1, 2, 1, 0, 5, true, 120 :: List.replicate 95 0⟩
def W3 : Msg := ⟨8, 1, 0, 0, 0, 0, false, List.replicate 96 0⟩
def W4 : Msg := ⟨8, 1, 1, 0, 1, 0, false, List.replicate 96 0⟩
theorem i64c (z : Int) (h : decide (-9223372036854775808 ≤ z) && decide (z ≤ 9223372036854775807) = true) : I64 z := by simp at h; unfold I64; omega
theorem W1_ok : W1.Ok := ⟨i64c _ rfl, i64c _ rfl, i64c _ rfl, i64c _ rfl, i64c _ rfl, i64c _ rfl, rfl⟩
theorem W2_ok : W2.Ok := ⟨i64c _ rfl, i64c _ rfl, i64c _ rfl, i64c _ rfl, i64c _ rfl, i64c _ rfl, rfl⟩
theorem W3_ok : W3.Ok := ⟨i64c _ rfl, i64c _ rfl, i64c _ rfl, i64c _ rfl, i64c _ rfl, i64c _ rfl, rfl⟩
theorem W4_ok : W4.Ok := ⟨i64c _ rfl, i64c _ rfl, i64c _ rfl, i64c _ rfl, i64c _ rfl, i64c _ rfl, rfl⟩
theorem W1_may : mayM W1 = true := by decide +kernel
theorem W2_may : mayM W2 = true := by decide +kernel
theorem W3_may : mayM W3 = false := by decide +kernel
theorem W4_may : mayM W4 = false := by decide +kernel
theorem W1_put : putB W1 = [1, 3, 2] := by
  simp [putB, W1, fieldsOf, fieldB, enc_small]
theorem W2_bare : bareB W2.body = [120] := by decide +kernel
theorem W2_put : putB W2 = [7, 1, 2, 1, 5, 1, 1, 120] := by
  have := W2_bare
  simp [putB, W2, fieldsOf, fieldB, enc_small, flg, encB] at *
  simp [this, enc_small]
theorem readV_some {l : List UInt8} {m : Msg} (hl : l.length ≤ 256) (h : readM l = some m) : readV l = (mcells m, 0) := by rw [readV_short hl, h]
theorem readV_none {l : List UInt8} (hl : l.length ≤ 256) (h : readM l = none) : readV l = (Tryd.zeroCells27, 4) := by rw [readV_short hl, h]
theorem r1 : readV [1, 3, 2] = (mcells W1, 0) := readV_some (by decide) (by rw [← W1_put]; exact readM_put W1_ok W1_may)
theorem none_of {l : List UInt8} {m : Msg} {p : Nat} (h : parse l = some (m, p)) (hn : mayM m = false ∨ p < l.length ∨ putB m ≠ l) : readM l = none := by
  unfold readM
  rw [h]
  simp only
  split
  · rfl
  · rename_i hp
    rw [if_neg]
    rintro ⟨h1, h2⟩
    rcases hn with hn | hn | hn
    · rw [h1] at hn; cases hn
    · exact hp hn
    · exact hn h2
theorem r2 : readM [1, 3, 3] = none := none_of (m := ⟨1, 3, 0, 3, 0, 0, false, List.replicate 96 0⟩) (p := 3) (by simp [-List.reduceReplicate, parse, rdNum, dec, rdFields, rdField, fieldsOf, bareM]) (.inl (by decide +kernel))
theorem r3 : readM [1, 3, 2, 0] = none := none_of (m := W1) (p := 3) (by simp [-List.reduceReplicate, parse, rdNum, dec, rdFields, rdField, fieldsOf, bareM, W1]) (.inr (.inl (by decide)))
theorem r4 : readM [1, 16, 1] = none := none_of (m := ⟨1, 16, 0, 1, 0, 0, false, List.replicate 96 0⟩) (p := 3) (by simp [-List.reduceReplicate, parse, rdNum, dec, rdFields, rdField, fieldsOf, bareM]) (.inl (by decide +kernel))
def W5 : Msg := ⟨7, 1, 2, 1, 0, 5, true, List.replicate 96 0⟩
theorem W5_bare : bareB W5.body = [] := by decide +kernel
theorem W5_put : putB W5 = [7, 1, 2, 1, 5, 1, 0] := by
  have := W5_bare
  simp [-List.reduceReplicate, putB, W5, fieldsOf, fieldB, enc_small, flg, encB] at *
  simp [-List.reduceReplicate, this, enc_small]
theorem r5 : readM [7, 1, 2, 1, 5, 1, 1, 0] = none := none_of (m := W5) (p := 8) (by simp [-List.reduceReplicate, parse, rdNum, dec, rdFields, rdField, rdFlg, rdBody, fieldsOf, bareM, W5]; rfl) (.inr (.inr (by rw [W5_put]; decide)))
/-- the cells that the walk makes -/
theorem c1 : ((Tryd.zeroCells27.setIfInBounds 0 (.int .i64 1)).setIfInBounds 1 (.int .i64 3)).setIfInBounds 3 (.int .i64 2) = mcells W1 := by kernel_rfl
end Go.Proofs.YtemmdlanidepbaaDoor
