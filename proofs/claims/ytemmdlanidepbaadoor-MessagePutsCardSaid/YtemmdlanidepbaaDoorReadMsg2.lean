/- Contract of message.Read, whole. -/
import Derived.Test.YtemmdlanidepbaaDoorReadMsg
namespace Go.Proofs.YtemmdlanidepbaaDoor
open Go.RowKit
set_option linter.unusedSimpArgs false
set_option maxRecDepth 100000

/-- May, as it is contracted -/
def MayC : Prop := ∀ m : Msg, m.Ok → ∀ W : World, Calls Tryd.prog 10 #[.agg (mcells m)] W (fun e w' => e = .returned (.bool (mayM m)) ∧ Below W.heap.size W w')
theorem readV_short {l : List UInt8} (hl : l.length ≤ 256) : readV l = match readM l with
  | some m => (mcells m, 0)
  | none => (Tryd.zeroCells27, 4) := by unfold readV; rw [if_neg (by omega)]; cases readM l <;> rfl
theorem read_any (HMay : MayC) (A : Option Addr) (c : Nat) (l : List UInt8) (w : World) (hA : At w A (bv l)) (hl : l.length ≤ 140737488355328) : Calls Tryd.prog 14 #[.slice A l.length c] w (ReadR w (readV l)) := by
  by_cases h : 256 < l.length
  · have e : readV l = (Tryd.zeroCells27, 3) := by unfold readV; rw [if_pos h]
    rw [e]
    exact read_long A c l w h hl
  · have h' : l.length ≤ 256 := by omega
    rw [readV_short h']
    cases hp : parse l with
    | none =>
      have hv : wholeV l = (Tryd.zeroCells27, 4) := by unfold wholeV; rw [hp]
      have hr : readM l = none := by unfold readM; rw [hp]
      rw [hr]
      exact read_bad A c l w hA h' hv
    | some r =>
      obtain ⟨m, p⟩ := r
      have hm := parse_ok hp
      by_cases hlt : p < l.length
      · have hv : wholeV l = (Tryd.zeroCells27, 4) := by unfold wholeV; rw [hp]; simp [hlt]
        have hr : readM l = none := by unfold readM; rw [hp]; simp [hlt]
        rw [hr]
        exact read_bad A c l w hA h' hv
      · have hv : wholeV l = (mcells m, 0) := by unfold wholeV; rw [hp]; simp [hlt]
        cases hy : mayM m with
        | false =>
          have hr : readM l = none := by unfold readM; rw [hp]; simp [hlt, hy]
          rw [hr]
          exact read_no A c l w hA h' m hm hv (fun W => put_no m hm W (HMay m hm) hy)
        | true =>
          have HP : ∀ W, Calls Tryd.prog 9 #[.agg (mcells m)] W (fun e w' => ∃ g c, e = .returned (.tuple #[.slice (some ⟨g, 0, none⟩) (putB m).length c, .int .i64 0]) ∧ At w' (some ⟨g, 0, none⟩) (bv (putB m)) ∧ Below W.heap.size W w') :=
            fun W => (put_yes m hm W (HMay m hm) hy).mono fun e w' ⟨g, c, h1, h2, h3⟩ => ⟨g, c, h1, own_at h2, h3⟩
          by_cases he : putB m = l
          · have hr : readM l = some m := by unfold readM; rw [hp]; simp [hlt, hy, he]
            rw [hr]
            exact read_same A c l w hA h' m hm hv HP he
          · have hr : readM l = none := by unfold readM; rw [hp]; simp [hlt, hy, he]
            rw [hr]
            exact read_other A c l w hA h' m hm hv HP he
/-- what was put is read -/
theorem readM_put {m : Msg} (hm : m.Ok) (h : mayM m = true) : readM (putB m) = some m := by
  have hp := parse_put hm h []
  rw [List.append_nil] at hp
  unfold readM
  rw [hp]
  simp [h]
/-- what is read was put -/
theorem readM_of {l : List UInt8} {m : Msg} (h : readM l = some m) : mayM m = true ∧ putB m = l := by
  unfold readM at h
  cases hp : parse l with
  | none => rw [hp] at h; cases h
  | some r =>
    obtain ⟨m', p⟩ := r
    rw [hp] at h
    simp only at h
    split at h
    · cases h
    · split at h
      · injection h with h
        subst h
        assumption
      · cases h
theorem putB_len {m : Msg} (hm : m.Ok) (h : mayM m = true) : (putB m).length ≤ 256 := by
  have hb := bounds_of h
  have l0 := enc_len (n := m.kind.toNat) (by unfold U64; have := hb.kind; omega)
  have l1 := enc_len (n := m.page.toNat) (by unfold U64; have := hb.page; omega)
  have l2 := enc_len (n := m.op.toNat) (by unfold U64; have := hb.op; omega)
  have l3 := enc_len (n := m.mode.toNat) (by unfold U64; have := hb.mode; omega)
  have l4 := enc_len (n := m.dest.toNat) (by unfold U64; have := hb.dest; omega)
  have l5 := enc_len (n := m.psn.toNat) (by unfold U64; have := hb.psn; omega)
  have l6 : (flg m.dirty).length = 1 := by cases m.dirty <;> rfl
  have l7 := form_len hm hb 7
  have k1 : fieldB m 1 = enc m.page.toNat := rfl
  have k2 : fieldB m 2 = enc m.op.toNat := rfl
  have k3 : fieldB m 3 = enc m.mode.toNat := rfl
  have k4 : fieldB m 4 = enc m.dest.toNat := rfl
  have k5 : fieldB m 5 = enc m.psn.toNat := rfl
  have k6 : fieldB m 6 = flg m.dirty := rfl
  have key : ((fieldsOf m.kind).map (fieldB m)).flatten.length ≤ 180 := by
    rcases kind_cases hb.kind with e | e | e | e | e | e | e | e | e | e | e | e | e
    all_goals
      rw [e]
      simp [fieldsOf, k1, k2, k3, k4, k5, k6]
      omega
  unfold putB
  rw [List.length_append]
  omega
end Go.Proofs.YtemmdlanidepbaaDoor
