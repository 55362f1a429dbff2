/- Contracts of millpondref01.Reader: Signed, Flag, Bytes. -/
import Derived.Test.YtemmdlanidepbaaDoorRef
import Derived.Test.YtemmdlanidepbaaDoorRdBytes
import Derived.Test.YtemmdlanidepbaaDoorSeq
namespace Go.Proofs.YtemmdlanidepbaaDoor
open Go.RowKit
set_option linter.unusedSimpArgs false

section
variable (w : World) (g : Nat) (A : Option Addr) (c : Nat) (l : List UInt8) (pos : Nat) (h : RRdr w g A c l pos)
include h
theorem rrNumber_ok {x k : Nat} (hd : dec 0 0 (l.drop pos) = some (x, k)) :
    Calls Tryd.prog 79 #[.pointer (some ⟨g, 0, none⟩)] w (RRd2 w g A c l (pos + k) (.int .u64 (x : Int)) (.int .i64 0)) := by
  refine (refNumber_rd w g A c l pos h).mono ?_
  intro e w' hn
  unfold NumRead at hn
  rw [hd] at hn
  obtain ⟨rfl, n, rfl⟩ := hn
  have hf := dec_fits _ _ _ (by omega) (by simp) _ _ hd
  rw [List.length_drop] at hf
  have := h.pos_le
  exact ⟨rfl, (h.drewN n).set _ (by omega), grown_trans (grown_drewN w n (some g)) (grown_set (w.drewN n) g 1 _) (.inl rfl)⟩
theorem rrNumber_no (hd : dec 0 0 (l.drop pos) = none) :
    Calls Tryd.prog 79 #[.pointer (some ⟨g, 0, none⟩)] w (RRd2 w g A c l pos (.int .u64 0) (.int .i64 4)) := by
  refine (refNumber_rd w g A c l pos h).mono ?_
  intro e w' hn
  unfold NumRead at hn
  rw [hd] at hn
  obtain ⟨rfl, n, rfl⟩ := hn
  exact ⟨rfl, h.drewN n, grown_drewN _ _ _⟩
end

/-- the place is written back -/
theorem RRdr.back {w : World} {g : Nat} {A : Option Addr} {c : Nat} {l : List UInt8} {p : Nat} (h : RRdr w g A c l p) (w0 : World) (hg : w0.grownBy w (some g)) (pos : Nat) (hp : pos ≤ l.length) :
    RRdr (w.setCell ⟨g, 1, none⟩ (.int .i64 (pos : Int))) g A c l pos ∧ w0.grownBy (w.setCell ⟨g, 1, none⟩ (.int .i64 (pos : Int))) (some g) :=
  ⟨h.set pos hp, grown_trans hg (grown_set _ _ _ _) (.inl rfl)⟩

section
variable (w : World) (g : Nat) (A : Option Addr) (c : Nat) (l : List UInt8) (pos : Nat) (h : RRdr w g A c l pos)
include h
theorem ref_left_at : ∀ W n, W = w.drewN n → Calls Tryd.prog 80 #[.pointer (some ⟨g, 0, none⟩)] W fun e w'' => e = .returned (.int .i64 ((l.length - pos : Nat) : Int)) ∧ ∃ m, w'' = w.drewN m := by
  rintro W n rfl
  refine (refLeft _ _ _ _ _ _ (h.drewN n)).mono ?_
  rintro e w' ⟨rfl, m, rfl⟩
  exact ⟨rfl, _, World.drewN_drewN ..⟩
theorem rrFlag_end (hp : pos = l.length) :
    Calls Tryd.prog 60 #[.pointer (some ⟨g, 0, none⟩)] w (RRd2 w g A c l pos (.bool false) (.int .i64 4)) := by
  have h0 := h.cell0
  have hl := ref_left_at w g A c l pos h
  rw [show l.length - pos = 0 by omega, show ((0 : Nat) : Int) = 0 from rfl] at hl
  have HL := Lib.hid hl
  clear hl
  clear hp
  go_enter Tryd.func60, Tryd.ntmps60
  go_wp2_with fail
  go_quiet ((go_at_call 80; exact HL.out _ _ rfl))
  go_wp2
  go_ret2
  exact ⟨rfl, h.drewN _, grown_drewN _ _ _⟩
theorem rrFlag_bad {b : UInt8} {r : List UInt8} (hd : l.drop pos = b :: r) (hb : 1 < b.toNat) :
    Calls Tryd.prog 60 #[.pointer (some ⟨g, 0, none⟩)] w (RRd2 w g A c l pos (.bool false) (.int .i64 4)) := by
  have h0 := h.cell0
  have h1 := h.cell1
  have hlen := h.len
  have hlt : pos < l.length := by have := congrArg List.length hd; simp at this; omega
  obtain ⟨ad, rfl, hcell⟩ := h.bytes pos (.int .u8 (b.toNat : Int)) (by
      have : l[pos]? = some b := by rw [← List.head?_drop, hd]; rfl
      simp [bv, this])
  have HL := Lib.hid (ref_left_at w g _ c l pos h)
  have Hd := Lib.hid hd
  clear hd
  have he : (((l.length - pos : Nat) : Int) == 0) = false := by simp; omega
  have hb1 : decide ((1 : Int) < (b.toNat : Int)) = true := by simp; omega
  obtain ⟨k, hk⟩ : ∃ k, l.length - pos = k := ⟨_, rfl⟩
  rw [hk] at he HL
  clear hk
  go_enter Tryd.func60, Tryd.ntmps60
  go_wp2_with fail
  go_quiet ((go_at_call 80; exact HL.out _ _ rfl))
  go_wp2
  go_ret2
  exact ⟨rfl, h.drewN _, grown_drewN _ _ _⟩
theorem rrFlag_ok {b : UInt8} {r : List UInt8} (hd : l.drop pos = b :: r) (hb : b.toNat ≤ 1) :
    Calls Tryd.prog 60 #[.pointer (some ⟨g, 0, none⟩)] w (RRd2 w g A c l (pos + 1) (.bool (b.toNat == 1)) (.int .i64 0)) := by
  have h0 := h.cell0
  have h1 := h.cell1
  have hf := h.free 1
  have hlen := h.len
  have hlt : pos < l.length := by have := congrArg List.length hd; simp at this; omega
  obtain ⟨ad, rfl, hcell⟩ := h.bytes pos (.int .u8 (b.toNat : Int)) (by
      have : l[pos]? = some b := by rw [← List.head?_drop, hd]; rfl
      simp [bv, this])
  have HL := Lib.hid (ref_left_at w g _ c l pos h)
  have Hd := Lib.hid hd
  clear hd
  have he : (((l.length - pos : Nat) : Int) == 0) = false := by simp; omega
  have hb1 : decide ((1 : Int) < (b.toNat : Int)) = false := by simp; omega
  obtain ⟨k, hk⟩ : ∃ k, l.length - pos = k := ⟨_, rfl⟩
  rw [hk] at he HL
  clear hk
  go_enter Tryd.func60, Tryd.ntmps60
  go_wp2_with fail
  go_quiet ((go_at_call 80; exact HL.out _ _ rfl))
  go_wp2
  have hr := (h.drewN nq).set (pos + 1) (by omega)
  have hg := grown_trans (grown_drewN w nq (some g)) (grown_set (w.drewN nq) g 1 (.int .i64 ((pos + 1 : Nat) : Int))) (.inl rfl)
  have hcell2 : ((w.drewN nq).setCell ⟨g, 1, none⟩ (.int .i64 ((pos + 1 : Nat) : Int))).cell? (ad.add pos) = some (.int .u8 (b.toNat : Int)) :=
    (World.cell?_of_block (w := w) (Below.heap_setCell (w.drewN nq) _ _ _ (by rw [add_block]; exact h.apart _ rfl))).trans hcell
  rw [show ((pos + 1 : Nat) : Int) = (pos : Int) + 1 by omega] at hr hg hcell2
  generalize (w.drewN nq).setCell ⟨g, 1, none⟩ (.int .i64 ((pos : Int) + 1)) = W1 at hr hg hcell2 ⊢
  clear h h0 h1 hf hcell HL he hb1
  have h0 := hr.cell0
  have h1 := hr.cell1
  have hw : IntKind.i64.wrap (pos : Int) = pos := IntWalk.i64_in _ (by omega)
  have hu : ((b.toNat : Int) == 1) = (b.toNat == 1) := by rw [Bool.eq_iff_iff]; simp; omega
  go_quiet (fail)
  go_wp2
  go_ret2
  exact ⟨rfl, hr.drewN _, grown_trans hg (grown_drewN _ _ (some g)) (.inl rfl)⟩
end
end Go.Proofs.YtemmdlanidepbaaDoor
