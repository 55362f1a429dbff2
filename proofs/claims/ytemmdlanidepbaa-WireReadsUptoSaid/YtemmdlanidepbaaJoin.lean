/- Contract of wire.Join: all bytes, one behind the other, in a row of the call's own. -/
import Derived.Test.YtemmdlanidepbaaWr
namespace Go.Proofs.Ytemmdlanidepbaa
open Go.RowKit

theorem flat_take (L : List (List UInt8)) (j : Nat) (hj : j < L.length) : (L.take (j + 1)).flatten = (L.take j).flatten ++ L[j] := by
  rw [List.take_succ_eq_append_getElem hj, List.flatten_append, List.flatten_cons, List.flatten_nil, List.append_nil]
theorem flat_le (L : List (List UInt8)) (j : Nat) : (L.take j).flatten.length ≤ L.flatten.length := by
  have : L.flatten = (L.take j).flatten ++ (L.drop j).flatten := by rw [← List.flatten_append, List.take_append_drop]
  rw [congrArg List.length this, List.length_append]; omega

theorem join_any (A : Option Addr) (c : Nat) (L : List (List UInt8)) (w : World) (hA : RowsAt w A L) (hn : L.length ≤ 140737488351232) (hl : L.flatten.length ≤ 140737488355328) :
    Calls Try.prog 10 #[.slice A L.length c] w (NewRow w L.flatten) := by
  have hmk : ∀ w : World, (Instr.makeSlice 23 (.int .i64 0) (.int .i64 0)).run Try.prog w = .ok (.slice (some ⟨w.heap.size, 0, none⟩) 0 0) (w.alloc (.cells #[] 5)) := fun w => by kernel_rfl
  go_enter Try.func10, Try.ntmps10
  go_wp2
  have H0 : (w.alloc (.cells #[] 5)).ownsRow w.heap.size 5 1 (.slice (some ⟨w.heap.size, 0, none⟩) 0 0) 0 [] := World.ownsRow_made w _ 0 (Nat.le_refl _) (by simp [maxLen]) (by simp)
  have HB0 : Below w.heap.size w (w.alloc (.cells #[] 5)) := (Below.refl _ _).alloc (Nat.le_refl _) _
  go_loopg [3, 9] L.length (fun k v i wr => ∃ j : Nat, i = .int .i64 (j : Int) ∧ Hid (j + k = L.length) ∧ wr.ownsRow w.heap.size 5 1 v (L.take j).flatten.length (bv (L.take j).flatten) ∧ Below w.heap.size w wr ∧ v.ownBlock.isSome)
  case atStart => exact ⟨0, rfl, Nat.zero_add _, H0, HB0, rfl⟩
  case round =>
    clear H0 HB0 hmk
    obtain ⟨j, rfl, hj, ho, hb, hs⟩ := hrel
    by_cases hlt : j < L.length
    · obtain ⟨ad, Ai, ci, rfl, hcell, hci, hAi⟩ := (hA.mono hb).get j hlt
      have hfl := flat_le L (j + 1)
      have hft := Lib.hid (flat_take L j hlt)
      have hfn : (L.take j).flatten.length + (L[j]).length ≤ 140737488355328 := by rw [hft.out, List.length_append] at hfl; omega
      clear hfl
      go_wp2_with (at_builtin; refine app_rows _ rfl _ _ 23 rfl w.heap.size 5 (.int .u8 0) 1 1 Try.underlying23 infoU8 rfl (by omega) u3 _ _ rfl ho Ai (L[j]).length ci (bv (L[j])) rfl (by simp [bv_len]) hAi (bv_one _) (by simp only [maxLen]; omega) (by omega) hb.size ?_; intro v' w' ho' hg hv')
      go_roundg (gk - 1)
      case measure => have := hj.out; omega
      case rel => exact ⟨j + 1, (by go_num), (by have := hj.out; show _ = _; omega), (by rw [hft.out, bv_app, List.length_append]; exact ho'), Bl.grown hb hg (fun k hk => (ho.lt k hk).1), isSome_of hs hv'⟩
    · go_wp2
      go_ret
      have e : L.take j = L := List.take_of_length_le (by omega)
      rw [e] at ho
      obtain ⟨g, c, rfl⟩ := own_some ho hs
      exact ⟨g, c, rfl, ho, hb⟩
end Go.Proofs.Ytemmdlanidepbaa
