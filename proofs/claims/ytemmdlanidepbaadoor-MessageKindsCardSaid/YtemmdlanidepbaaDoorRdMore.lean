/- Contracts of wire.Reader: Signed, Flag, count, Bytes. -/
import Derived.Test.YtemmdlanidepbaaDoorRdNum
namespace Go.Proofs.YtemmdlanidepbaaDoor
open Go.RowKit

/-- two results, and a reader (block g) that stands at pos; no other block has turned -/
def Rd2 (w : World) (g : Nat) (ad : Addr) (c : Nat) (l : List UInt8) (pos : Nat) (v1 v2 : Value) (e : Ending) (w' : World) : Prop :=
  e = .returned (.tuple #[v1, v2]) ∧ Rdr w' g ad c l pos ∧ w.grownBy w' (some g)

theorem grown_drewN (w : World) (n : Nat) (r : Option Nat) : w.grownBy (w.drewN n) r := ⟨rfl, rfl, rfl, Nat.le_refl _, fun _ _ _ => rfl⟩
theorem grown_set (w : World) (g i : Nat) (u : Value) : w.grownBy (w.setCell ⟨g, i, none⟩ u) (some g) :=
  ⟨rfl, rfl, rfl, by simp, fun k _ hk => Below.heap_setCell _ _ _ _ (fun e => hk (by rw [e]))⟩

section
variable (w : World) (g : Nat) (ad : Addr) (c : Nat) (l : List UInt8) (pos : Nat) (h : Rdr w g ad c l pos)
include h
theorem rdNumber_ok {x k : Nat} (hd : dec 0 0 (l.drop pos) = some (x, k)) :
    Calls Tryd.prog 75 #[.pointer (some ⟨g, 0, none⟩)] w (Rd2 w g ad c l (pos + k) (.int .u64 (x : Int)) (.int .i64 0)) := by
  refine (rdNumber w g ad c l pos h).mono ?_
  intro e w' hn
  unfold NumRead at hn
  rw [hd] at hn
  obtain ⟨rfl, n, rfl⟩ := hn
  have hf := dec_fits _ _ _ (by omega) (by simp) _ _ hd
  rw [List.length_drop] at hf
  have := h.pos_le
  exact ⟨rfl, (h.drewN n).set _ (by omega), grown_trans (grown_drewN w n (some g)) (grown_set (w.drewN n) g 1 _) (.inl rfl)⟩
theorem rdNumber_no (hd : dec 0 0 (l.drop pos) = none) :
    Calls Tryd.prog 75 #[.pointer (some ⟨g, 0, none⟩)] w (Rd2 w g ad c l pos (.int .u64 0) (.int .i64 4)) := by
  refine (rdNumber w g ad c l pos h).mono ?_
  intro e w' hn
  unfold NumRead at hn
  rw [hd] at hn
  obtain ⟨rfl, n, rfl⟩ := hn
  exact ⟨rfl, h.drewN n, grown_drewN _ _ _⟩

end

section
variable (w : World) (g : Nat) (ad : Addr) (c : Nat) (l : List UInt8) (pos : Nat) (h : Rdr w g ad c l pos)
include h
theorem rdFlag_end (hp : pos = l.length) :
    Calls Tryd.prog 51 #[.pointer (some ⟨g, 0, none⟩)] w (Rd2 w g ad c l pos (.bool false) (.int .i64 4)) := by
  have h0 := h.cell0
  have hl : ∀ W n, W = w.drewN n → Calls Tryd.prog 77 #[.pointer (some ⟨g, 0, none⟩)] W fun e w'' => e = .returned (.int .i64 0) ∧ ∃ m, w'' = w.drewN m := by
    rintro W n rfl
    refine (left_yes _ _ _ _ _ _ (h.drewN n)).mono ?_
    rintro e w' ⟨rfl, m, rfl⟩
    exact ⟨by rw [hp, Nat.sub_self]; rfl, _, World.drewN_drewN ..⟩
  have HL := Lib.hid hl
  clear hl
  clear hp
  go_enter Tryd.func51, Tryd.ntmps51
  go_wp2_with fail
  refine (there_yes _ _ _ _ _ h0).mono ?_
  rintro e w' ⟨rfl, rfl⟩
  go_wp2_with fail
  go_quiet ((go_at_call 77; exact HL.out _ _ rfl))
  go_wp2
  go_ret2
  exact ⟨rfl, h.drewN _, grown_drewN _ _ _⟩

theorem rdFlag_bad {b : UInt8} {r : List UInt8} (hd : l.drop pos = b :: r) (hb : 1 < b.toNat) :
    Calls Tryd.prog 51 #[.pointer (some ⟨g, 0, none⟩)] w (Rd2 w g ad c l pos (.bool false) (.int .i64 4)) := by
  have h0 := h.cell0
  have h1 := h.cell1
  have hlen := h.len
  have hlt : pos < l.length := by have := congrArg List.length hd; simp at this; omega
  have hcell : w.cell? (ad.add pos) = some (.int .u8 (b.toNat : Int)) := by
    obtain ⟨ad', e, hc⟩ := h.bytes pos (.int .u8 (b.toNat : Int)) (by
      have : l[pos]? = some b := by rw [← List.head?_drop, hd]; rfl
      simp [bv, this])
    injection e with e
    subst e
    exact hc
  have hl : ∀ W n, W = w.drewN n → Calls Tryd.prog 77 #[.pointer (some ⟨g, 0, none⟩)] W fun e w'' => e = .returned (.int .i64 ((l.length - pos : Nat) : Int)) ∧ ∃ m, w'' = w.drewN m := by
    rintro W n rfl
    refine (left_yes _ _ _ _ _ _ (h.drewN n)).mono ?_
    rintro e w' ⟨rfl, m, rfl⟩
    exact ⟨rfl, _, World.drewN_drewN ..⟩
  have HL := Lib.hid hl
  clear hl
  have Hd := Lib.hid hd
  clear hd
  have he : (((l.length - pos : Nat) : Int) == 0) = false := by simp; omega
  have hb1 : decide ((1 : Int) < (b.toNat : Int)) = true := by simp; omega
  obtain ⟨k, hk⟩ : ∃ k, l.length - pos = k := ⟨_, rfl⟩
  rw [hk] at he HL
  clear hk
  go_enter Tryd.func51, Tryd.ntmps51
  go_wp2_with fail
  refine (there_yes _ _ _ _ _ h0).mono ?_
  rintro e w' ⟨rfl, rfl⟩
  go_wp2_with fail
  go_quiet ((go_at_call 77; exact HL.out _ _ rfl))
  go_wp2
  go_ret2
  exact ⟨rfl, h.drewN _, grown_drewN _ _ _⟩

theorem rdFlag_ok {b : UInt8} {r : List UInt8} (hd : l.drop pos = b :: r) (hb : b.toNat ≤ 1) :
    Calls Tryd.prog 51 #[.pointer (some ⟨g, 0, none⟩)] w (Rd2 w g ad c l (pos + 1) (.bool (b.toNat == 1)) (.int .i64 0)) := by
  have h0 := h.cell0
  have h1 := h.cell1
  have hf := h.free 1
  have hlen := h.len
  have hlt : pos < l.length := by have := congrArg List.length hd; simp at this; omega
  have hcell : w.cell? (ad.add pos) = some (.int .u8 (b.toNat : Int)) := by
    obtain ⟨ad', e, hc⟩ := h.bytes pos (.int .u8 (b.toNat : Int)) (by
      have : l[pos]? = some b := by rw [← List.head?_drop, hd]; rfl
      simp [bv, this])
    injection e with e
    subst e
    exact hc
  have hl : ∀ W n, W = w.drewN n → Calls Tryd.prog 77 #[.pointer (some ⟨g, 0, none⟩)] W fun e w'' => e = .returned (.int .i64 ((l.length - pos : Nat) : Int)) ∧ ∃ m, w'' = w.drewN m := by
    rintro W n rfl
    refine (left_yes _ _ _ _ _ _ (h.drewN n)).mono ?_
    rintro e w' ⟨rfl, m, rfl⟩
    exact ⟨rfl, _, World.drewN_drewN ..⟩
  have HL := Lib.hid hl
  clear hl
  have Hd := Lib.hid hd
  clear hd
  have he : (((l.length - pos : Nat) : Int) == 0) = false := by simp; omega
  have hb1 : decide ((1 : Int) < (b.toNat : Int)) = false := by simp; omega
  obtain ⟨k, hk⟩ : ∃ k, l.length - pos = k := ⟨_, rfl⟩
  rw [hk] at he HL
  clear hk
  go_enter Tryd.func51, Tryd.ntmps51
  go_wp2_with fail
  refine (there_yes _ _ _ _ _ h0).mono ?_
  rintro e w' ⟨rfl, rfl⟩
  go_wp2_with fail
  go_quiet ((go_at_call 77; exact HL.out _ _ rfl))
  go_wp2
  have hr := (h.drewN nq).set (pos + 1) (by omega)
  have hg := grown_trans (grown_drewN w nq (some g)) (grown_set (w.drewN nq) g 1 (.int .i64 ((pos + 1 : Nat) : Int))) (.inl rfl)
  have hcell2 : ((w.drewN nq).setCell ⟨g, 1, none⟩ (.int .i64 ((pos + 1 : Nat) : Int))).cell? (ad.add pos) = some (.int .u8 (b.toNat : Int)) :=
    (World.cell?_of_block (w := w) (Below.heap_setCell (w.drewN nq) _ _ _ (by rw [add_block]; exact h.apart))).trans hcell
  rw [show ((pos + 1 : Nat) : Int) = (pos : Int) + 1 by omega] at hr hg hcell2
  generalize (w.drewN nq).setCell ⟨g, 1, none⟩ (.int .i64 ((pos : Int) + 1)) = W1 at hr hg hcell2 ⊢
  clear h h0 h1 hf hcell HL he hb1
  have h0 := hr.cell0
  have h1 := hr.cell1
  have hw : IntKind.i64.wrap (pos : Int) = pos := IntWalk.i64_in _ (by omega)
  have hu : ((b.toNat : Int) == 1) = (b.toNat == 1) := by rw [Bool.eq_iff_iff]; simp; omega
  go_quiet (fail)
  go_wp2
  go_ret2
  exact ⟨rfl, hr.drewN _, grown_trans hg (grown_drewN _ _ (some g)) (.inl rfl)⟩
end
end Go.Proofs.YtemmdlanidepbaaDoor
