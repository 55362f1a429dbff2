/- Contract of wire.Put over the law's form. -/
import Derived.Test.YtemmdlanidepbaaTake
import Derived.Test.YtemmdlanidepbaaJoin
namespace Go.Proofs.Ytemmdlanidepbaa
open Go.RowKit
set_option linter.unusedSimpArgs false

theorem fn3_not (w : World) (f : FuncId) : (binOp .eql 53 (.func (.func f) #[] #[]) .nilFunc).run Try.prog w = .ok (.bool false) w := by kernel_rfl
/-- the second cell of a pair, as a load names it -/
theorem add_next (ad : Addr) (j : Nat) : ({ block := (ad.add (j * 2)).block, off := (ad.add (j * 2)).off + 1, spot := none } : Addr) = ad.add (2 * j + 1) := by
  have e : (ad.add (j * 2)).add 1 = ad.add (2 * j + 1) := by rw [add_add, Nat.mul_comm]
  rw [← e]
  unfold Addr.add
  rfl
theorem pair_at {w : World} {A : Option Addr} {P : List (Nat × Nat)} (hA : At w A (pv P)) {j : Nat} (hj : j < P.length) {a b : Nat} (hp : P[j] = (a, b)) :
    ∃ ad, A = some ad ∧ w.cell? (ad.add (j * 2)) = some (.int .u64 (a : Int)) ∧ w.cell? { block := (ad.add (j * 2)).block, off := (ad.add (j * 2)).off + 1, spot := none } = some (.int .u64 (b : Int)) := by
  obtain ⟨z0, z1⟩ := pv_get P j hj
  rw [hp] at z0 z1
  obtain ⟨ad, rfl, q0⟩ := hA _ _ z0
  obtain ⟨ad', e, q1⟩ := hA _ _ z1
  injection e with e
  subst e
  exact ⟨ad, rfl, by rw [Nat.mul_comm]; exact q0, by rw [add_next]; exact q1⟩
theorem encs_take (P : List (Nat × Nat)) (j : Nat) (hj : j < P.length) : encs (P.take (j + 1)) = encs (P.take j) ++ encP P[j] := by
  rw [List.take_succ_eq_append_getElem hj, encs_app]
  congr 1
  simp [encs]
/-- a new row of bytes beside OK -/
def RowOk (w : World) (l : List UInt8) (e : Ending) (w' : World) : Prop :=
  ∃ g c, e = .returned (.tuple #[.slice (some ⟨g, 0, none⟩) l.length c, .int .i64 0]) ∧ w'.ownsRow w.heap.size 5 1 (.slice (some ⟨g, 0, none⟩) l.length c) l.length (bv l) ∧ Below w.heap.size w w'

set_option maxRecDepth 100000 in
set_option maxHeartbeats 4000000 in
theorem put_any (A : Option Addr) (c : Nat) (P : List (Nat × Nat)) (w : World) (hA : At w A (pv P)) (hP : ∀ p ∈ P, U64P p) (hn : P.length ≤ 1048576) :
    Calls Try.prog 27 #[.slice A P.length c, .func (.func 28) #[] #[]] w (RowOk w (encL P)) := by
  have hf := fn3_not
  have hu : U64 P.length := by unfold U64; omega
  go_enter Try.func27, Try.ntmps27
  go_wp2_with fail
  refine (number_any _ hu _).mono ?_
  rintro e w1 ⟨g1, c1, rfl, ho, hb⟩
  go_wp2_with fail
  go_loopg [6, 17] P.length (fun k v i wr => ∃ (j : Nat) (l : List UInt8), i = .int .i64 (j : Int) ∧ Hid (j + k = P.length ∧ l = enc P.length ++ encs (P.take j)) ∧ wr.ownsRow w.heap.size 5 1 v l.length (bv l) ∧ Below w.heap.size w wr ∧ v.ownBlock.isSome)
  case atStart => exact ⟨0, enc P.length, rfl, ⟨Nat.zero_add _, by simp [encs]⟩, ho, hb, rfl⟩
  case round =>
    clear ho hb
    obtain ⟨j, l, rfl, hj, ho, hb, hs⟩ := hrel
    obtain ⟨vb, vc, rfl⟩ := own_some ho hs
    by_cases hlt : j < P.length
    · obtain ⟨⟨a, b⟩, hp⟩ : ∃ p, P[j] = p := ⟨_, rfl⟩
      have hU := hP _ (List.getElem_mem hlt)
      rw [hp] at hU
      obtain ⟨ad, rfl, q0, q1⟩ := pair_at (hA.mono hb) hlt hp
      go_wp2_with fail
      have hba := (Below.refl wr.heap.size wr).alloc (Nat.le_refl _) (.cells #[.int .u64 (a : Int), .int .u64 (b : Int)] 51)
      have HF := form_any a b hU.1 hU.2 (wr.alloc (.cells #[.int .u64 (a : Int), .int .u64 (b : Int)] 51))
      have hl2 : (enc a ++ enc b).length ≤ 20 := encP_len (p := (a, b)) hU
      obtain ⟨m, hm⟩ : ∃ m, m = enc a ++ enc b := ⟨_, rfl⟩
      rw [← hm] at HF hl2
      replace hm := Lib.hid hm
      refine HF.mono ?_
      clear HF
      rintro e w2 ⟨g2, c2, rfl, ho2, hb2⟩
      have hB2 := Bl.step hba hb2
      have hOl := own_below ho hB2
      have hA2 := own_at ho2
      have HB2 := Lib.hid (Bl.step hb hB2)
      have hle : l.length ≤ 20971530 := by
        have h1 := enc_len hu
        have h2 := encs_len (P.take j) (fun p hp => hP p (List.mem_of_mem_take hp))
        rw [List.length_take] at h2
        rw [hj.out.2, List.length_append]
        omega
      clear ho hb hba hb2 hB2 q0 q1 ho2
      go_wp2_with (at_builtin; refine app_rows _ rfl _ _ 23 rfl w.heap.size 5 (.int .u8 0) 1 1 Try.underlying23 infoU8 rfl (by omega) _ _ _ rfl hOl (some ⟨g2, 0, none⟩) m.length c2 (bv m) rfl (by simp [bv_len]) hA2 (bv_one _) (by simp only [maxLen]; omega) (by omega) HB2.out.size ?_; intro v' w' ho' hg hv')
      go_roundg (gk - 1)
      case measure => have := hj.out; omega
      case rel => exact ⟨j + 1, l ++ m, (by go_num), ⟨(by have := hj.out; omega), (by rw [encs_take P j hlt, hp, hj.out.2, hm.out, List.append_assoc]; rfl)⟩, (by rw [bv_app, List.length_append]; exact ho'), Bl.grown HB2.out hg (fun k hk => (hOl.lt k hk).1), isSome_of rfl hv'⟩
    · have e : l = encL P := by rw [hj.out.2, List.take_of_length_le (by omega)]; rfl
      subst e
      go_wp2
      go_ret2
      exact ⟨vb, vc, rfl, ho, hb⟩
end Go.Proofs.Ytemmdlanidepbaa
