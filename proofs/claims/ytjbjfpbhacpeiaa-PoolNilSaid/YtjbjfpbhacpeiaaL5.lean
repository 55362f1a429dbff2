/- The law PoolSame, walked. -/
import Derived.Test.YtjbjfpbhacpeiaaL4
import Derived.Test.YtjbjfpbhacpeiaaS4
import Derived.Test.YtjbjfpbhacpeiaaQ6
namespace Go.Proofs.Ytjbjfpbhacpeiaa
open Go.RowKit
set_option linter.unusedSimpArgs false
set_option linter.unusedVariables false
set_option maxRecDepth 100000

/-- a pool that was just made, or none -/
def PoolO (B C : Nat) (n : Int) (P : Option Addr) (W : World) : Prop := (¬ (1 ≤ n ∧ n ≤ 16) ∧ P = none) ∨ ∃ k : Nat, (n = (k : Int) ∧ 1 ≤ k ∧ k ≤ 16) ∧ ∃ b m, P = some ⟨b, 0, none⟩ ∧ PoolAt W b m (S0 k) ∧ (B ≤ b ∧ b < C) ∧ B ≤ m ∧ m < C
def RefO (B C : Nat) (n : Int) (R : Option Addr) (W : World) : Prop := (¬ (1 ≤ n ∧ n ≤ 16) ∧ R = none) ∨ ∃ k : Nat, (n = (k : Int) ∧ 1 ≤ k ∧ k ≤ 16) ∧ ∃ r q, R = some ⟨r, 0, none⟩ ∧ RefAt W r q (S0 k) ∧ (B ≤ r ∧ r < C) ∧ B ≤ q ∧ q < C
theorem PoolO.later {B C : Nat} {n : Int} {P : Option Addr} {W W' : World} (h : PoolO B C n P W) (hb : Below W.heap.size W W') : PoolO B C n P W' := by
  rcases h with h | ⟨k, hk, b, m, e, h1, h2, h3⟩
  · exact .inl h
  · exact .inr ⟨k, hk, b, m, e, h1.later hb, h2, h3⟩
theorem RefO.later {B C : Nat} {n : Int} {P : Option Addr} {W W' : World} (h : RefO B C n P W) (hb : Below W.heap.size W W') : RefO B C n P W' := by
  rcases h with h | ⟨k, hk, b, m, e, h1, h2, h3⟩
  · exact .inl h
  · exact .inr ⟨k, hk, b, m, e, h1.later hb, h2, h3⟩
theorem new_opt (n : Int) (w : World) : Calls Try.prog 7 #[.int .i64 n] w (fun e w' => ∃ P er, e = .returned (.tuple #[.pointer P, .int .i64 er]) ∧ PoolO w.heap.size w'.heap.size n P w' ∧ Below w.heap.size w w') := by
  by_cases h : 1 ≤ n ∧ n ≤ 16
  · obtain ⟨k, rfl⟩ : ∃ k : Nat, (k : Int) = n := ⟨n.toNat, by omega⟩
    exact (new_yes k (by omega) (by omega) w).mono fun e w' ⟨he, hp, hb⟩ => ⟨_, _, he, .inr ⟨k, ⟨rfl, by omega, by omega⟩, _, _, rfl, hp, ⟨by omega, hp.cells.lt⟩, by omega, hp.mlt⟩, hb⟩
  · exact (new_no n h w).mono fun e w' ⟨he, hw⟩ => by
      subst hw
      exact ⟨_, _, he, .inl ⟨h, rfl⟩, Below.refl _ _⟩
theorem rnew_opt (n : Int) (w : World) : Calls Try.prog 8 #[.int .i64 n] w (fun e w' => ∃ R, e = .returned (.pointer R) ∧ RefO w.heap.size w'.heap.size n R w' ∧ Below w.heap.size w w') := by
  by_cases h : 1 ≤ n ∧ n ≤ 16
  · obtain ⟨k, rfl⟩ : ∃ k : Nat, (k : Int) = n := ⟨n.toNat, by omega⟩
    exact (rnew_yes k (by omega) (by omega) w).mono fun e w' ⟨he, hp, hb⟩ => ⟨_, he, .inr ⟨k, ⟨rfl, by omega, by omega⟩, _, _, rfl, hp, ⟨by omega, hp.head.lt⟩, by omega, hp.row.lt⟩, hb⟩
  · exact (rnew_no n h w).mono fun e w' ⟨he, hw⟩ => by
      subst hw
      exact ⟨_, he, .inl ⟨h, rfl⟩, Below.refl _ _⟩
/-- both pools, or neither -/
def Duo (T : Nat → Prop) (K : Int) (P R : Option Addr) (W : World) : Prop := (P = none ∧ R = none) ∨ ∃ b r S, P = some ⟨b, 0, none⟩ ∧ R = some ⟨r, 0, none⟩ ∧ TwoAt T S K b r W
theorem Duo.kept {T U : Nat → Prop} {K : Int} {P R : Option Addr} {W W' : World} (h : Duo T K P R W) (hx : Ex U W W') (hu : ∀ k, T k → ¬ U k) : Duo T K P R W' := by
  rcases h with h | ⟨b, r, S, e1, e2, h⟩
  · exact .inl h
  · exact .inr ⟨b, r, S, e1, e2, h.kept hx hu⟩
theorem Duo.later {T : Nat → Prop} {K : Int} {P R : Option Addr} {W W' : World} (h : Duo T K P R W) (hb : Below W.heap.size W W') : Duo T K P R W' := h.kept (U := fun _ => False) (Ex.below hb) (fun _ _ => id)
theorem Duo.more {T T' : Nat → Prop} {K : Int} {P R : Option Addr} {W : World} (h : Duo T K P R W) (ht : ∀ k, T k → T' k) : Duo T' K P R W := by
  rcases h with h | ⟨b, r, S, e1, e2, h⟩
  · exact .inl h
  · exact .inr ⟨b, r, S, e1, e2, h.more ht⟩
theorem duo_start {B B' C C' : Nat} {T : Nat → Prop} {n : Int} {P R : Option Addr} {W : World} (hp : PoolO B B' n P W) (hr : RefO C C' n R W) (hT : ∀ k, (B ≤ k ∧ k < B') ∨ (C ≤ k ∧ k < C') → T k) : Duo T 0 P R W := by
  rcases hp with ⟨h, rfl⟩ | ⟨k, hk, b, m, rfl, h1, h2, h3⟩
  · rcases hr with ⟨_, rfl⟩ | ⟨k, hk, _⟩
    · exact .inl ⟨rfl, rfl⟩
    · exact absurd ⟨by omega, by omega⟩ h
  · rcases hr with ⟨h, _⟩ | ⟨k', hk', r, q, rfl, g1, g2, g3⟩
    · exact absurd ⟨by omega, by omega⟩ h
    · obtain rfl : k = k' := by omega
      exact .inr ⟨b, r, _, rfl, rfl, ⟨⟨m, q, h1, g1, ⟨hT _ (.inl h2), hT _ (.inl h3)⟩, hT _ (.inr g2), hT _ (.inr g3)⟩, S0_ok hk.2.1 hk.2.2⟩⟩
theorem Duo.inside {T : Nat → Prop} {K : Int} {P R : Option Addr} {W : World} (h : Duo T K P R W) : Duo (fun k => T k ∧ k < W.heap.size) K P R W := by
  rcases h with h | ⟨b, r, S, e1, e2, ⟨m, q, h1, h2, ⟨h3, h4⟩, h5, h6⟩, ok⟩
  · exact .inl h
  · exact .inr ⟨b, r, S, e1, e2, ⟨m, q, h1, h2, ⟨⟨h3, h1.cells.lt⟩, h4, h1.mlt⟩, ⟨h5, h2.head.lt⟩, h6, h2.row.lt⟩, ok⟩
theorem below_drewN {W : World} (n : Nat) : Below W.heap.size W (W.drewN n) := ⟨rfl, rfl, rfl, Nat.le_refl _, fun _ _ => rfl⟩
/-- the program and the document compare alike -/
theorem same_duo {T U : Nat → Prop} {K K' : Int} {X P Y Q : Option Addr} {w : World} (h1 : Duo T K X P w) (h2 : Duo U K' Y Q w) : ∃ t : Bool, ∀ W, Below w.heap.size w W →
    Calls Try.prog 13 #[.pointer X, .pointer Y] W (fun e w' => e = .returned (.bool t) ∧ Below W.heap.size W w') ∧ Calls Try.prog 14 #[.pointer P, .pointer Q] W (fun e w' => e = .returned (.bool t) ∧ Below W.heap.size W w') := by
  rcases h1 with ⟨rfl, rfl⟩ | ⟨b, r, S, rfl, rfl, ⟨m, q, hp, hr, _⟩, ok⟩
  · rcases h2 with ⟨rfl, rfl⟩ | ⟨b', r', S', rfl, rfl, ⟨m', q', hp', hr', _⟩, ok'⟩
    · refine ⟨true, fun W hW => ⟨?_, ?_⟩⟩
      · exact (same_not W none none false false (there_no W none (.inl rfl)) (there_no W none (.inl rfl)) rfl).mono fun e w' ⟨he, hw⟩ => by subst hw; exact ⟨he, Below.refl _ _⟩
      · exact (rsame_nil W none none (.inl rfl)).mono fun e w' ⟨he, hw⟩ => by subst hw; exact ⟨he, Below.refl _ _⟩
    · refine ⟨false, fun W hW => ⟨?_, ?_⟩⟩
      · exact (same_not W none _ false true (there_no W none (.inl rfl)) (there_yes W b' m' (hp'.later hW) ok') rfl).mono fun e w' ⟨he, hw⟩ => by subst hw; exact ⟨he, Below.refl _ _⟩
      · exact (rsame_nil W none _ (.inl rfl)).mono fun e w' ⟨he, hw⟩ => by subst hw; exact ⟨he, Below.refl _ _⟩
  · rcases h2 with ⟨rfl, rfl⟩ | ⟨b', r', S', rfl, rfl, ⟨m', q', hp', hr', _⟩, ok'⟩
    · refine ⟨false, fun W hW => ⟨?_, ?_⟩⟩
      · exact (same_not W _ none true false (there_yes W b m (hp.later hW) ok) (there_no W none (.inl rfl)) rfl).mono fun e w' ⟨he, hw⟩ => by subst hw; exact ⟨he, Below.refl _ _⟩
      · exact (rsame_nil W _ none (.inr rfl)).mono fun e w' ⟨he, hw⟩ => by subst hw; exact ⟨he, Below.refl _ _⟩
    · refine ⟨psB S S', fun W hW => ⟨?_, ?_⟩⟩
      · exact (same_any W b m b' m' (hp.later hW) ok (hp'.later hW) ok').mono fun e w' ⟨he, n, hw⟩ => by subst hw; exact ⟨he, below_drewN n⟩
      · exact (rsame_any W r q r' q' (hr.later hW) ok (hr'.later hW) ok').mono fun e w' ⟨he, n, hw⟩ => by subst hw; exact ⟨he, below_drewN n⟩
theorem same_self {T : Nat → Prop} {K : Int} {X P : Option Addr} {w : World} (h1 : Duo T K X P w) : ∀ W, Below w.heap.size w W → Calls Try.prog 13 #[.pointer X, .pointer X] W (fun e w' => e = .returned (.bool true) ∧ Below W.heap.size W w') := by
  rcases h1 with ⟨rfl, rfl⟩ | ⟨b, r, S, rfl, rfl, ⟨m, q, hp, hr, _⟩, ok⟩
  · exact fun W hW => (same_not W none none false false (there_no W none (.inl rfl)) (there_no W none (.inl rfl)) rfl).mono fun e w' ⟨he, hw⟩ => by subst hw; exact ⟨he, Below.refl _ _⟩
  · intro W hW
    have := same_any W b m b m (hp.later hW) ok (hp.later hW) ok
    rw [psB_iff.2 rfl] at this
    exact this.mono fun e w' ⟨he, n, hw⟩ => by subst hw; exact ⟨he, below_drewN n⟩
/-- may the script's loop go on? -/
def goes (j len : Nat) (R : Option Addr) : Bool := decide (j < len) && (decide (j < 60) && R.isSome)
set_option maxHeartbeats 16000000 in
theorem same_walk (w : World) (n1 n2 : Int) (A : Option Addr) (c : Nat) (L : List St) (hA : At w A (L.flatMap stcells)) (hL : ∀ x ∈ L, x.Ok) (A2 : Option Addr) (c2 : Nat) (L2 : List St) (hA2 : At w A2 (L2.flatMap stcells)) (hL2 : ∀ x ∈ L2, x.Ok) :
    Calls Try.prog 4 #[.agg #[.int .i64 n1, .int .i64 n2], .slice A L.length c, .slice A2 L2.length c2] w (fun e w' => e = .returned (.bool true) ∧ Below w.heap.size w w') := by
  have HL := Lib.hid hL
  have HA := Lib.hid hA
  have HL2 := Lib.hid hL2
  have HA2 := Lib.hid hA2
  clear hA hL hA2 hL2
  go_enter Try.func4, Try.ntmps4
  go_upto_region 1 with fail
  have hX0 := PCells.new w #[.int .i64 n1, .int .i64 n2] 44
  have HB0 : Hid (Below w.heap.size w (w.alloc (.cells #[.int .i64 n1, .int .i64 n2] 44))) := Lib.hid ((Below.refl _ _).alloc (Nat.le_refl _) _)
  have hg : w.heap.size < (w.alloc (.cells #[.int .i64 n1, .int .i64 n2] 44)).heap.size := by simp
  generalize hgE : w.heap.size = g at *
  have HGE := Lib.hid hgE
  clear hgE
  generalize w.alloc (.cells #[.int .i64 n1, .int .i64 n2] 44) = w0 at *
  have HX0 := Lib.hid hX0
  have c0 : w0.cell? ⟨g, 0, none⟩ = some (.int .i64 n1) := by rw [hX0.cell]; rfl
  clear hX0
  go_wp2_with fail
  refine (new_opt n1 w0).mono ?_
  rintro e w1 ⟨X, e1, rfl, hX, hb1⟩
  have HX1 := Lib.hid (PCells.kept (T := fun _ => False) HX0.out (Ex.below hb1) id)
  have c1 : w1.cell? ⟨g, 1, none⟩ = some (.int .i64 n2) := by rw [HX1.out.cell]; rfl
  have HB1 := Lib.hid (HB0.out.trans (hb1.mono (by omega)))
  have HPx := Lib.hid hX
  have hs1 := hb1.size
  clear hX hb1 c0 HX0 HB0
  go_wp2_with fail
  refine (new_opt n2 w1).mono ?_
  rintro e w2 ⟨Y, e2, rfl, hY, hb2⟩
  have HX2 := Lib.hid (PCells.kept (T := fun _ => False) HX1.out (Ex.below hb2) id)
  have HB2 := Lib.hid (HB1.out.trans (hb2.mono (by omega)))
  have HPx2 := Lib.hid (HPx.out.later hb2)
  have HPy := Lib.hid hY
  have hs2 := hb2.size
  clear hY hb2 c1 HX1 HB1 HPx
  go_upto_region 3 with fail
  have U : Up (fun _ => False) w2.drew (fun u => u.cell? ⟨g, 0, none⟩ = some (.int .i64 n1) ∧ u.cell? ⟨g, 1, none⟩ = some (.int .i64 n2)) := (Up.cell (w := w2.drew) (show w2.drew.cell? _ = _ from by rw [show w2.drew.cell? ⟨g, 0, none⟩ = w2.cell? ⟨g, 0, none⟩ from rfl, HX2.out.cell]; rfl) id).and (Up.cell (w := w2.drew) (show w2.drew.cell? _ = _ from by rw [show w2.drew.cell? ⟨g, 1, none⟩ = w2.cell? ⟨g, 1, none⟩ from rfl, HX2.out.cell]; rfl) id)
  have HBd : Hid (Below g w w2.drew) := Lib.hid ⟨HB2.out.os, HB2.out.tape, HB2.out.output, HB2.out.size, HB2.out.block⟩
  have HPxd := Lib.hid (HPx2.out.later (below_drewN 1))
  have HPyd := Lib.hid (HPy.out.later (below_drewN 1))
  refine wp_region_seq (fun _ => False) [] [(0, true), (1, true), (3, true), (4, true), (2, false), (5, false), (6, true), (7, true)] (by kernel_rfl) (by kernel_rfl) (fun _ _ d _ _ h => by cases d <;> exact h) rfl (by kernel_rfl) ?_
  refine seq_at (some 28) (v := ?_) rfl (by kernel_rfl) (by kernel_rfl) ?_ ?_
  rotate_left
  · intro w' hw'
    obtain ⟨q0, q1⟩ := U w' hw'
    go_simp
    try with_reducible rfl
  simp only [Act.put, List.setIfInBounds_toArray, List.set_cons_zero, List.set_cons_succ]
  refine seq_at (some 29) (v := ?_) rfl (by kernel_rfl) (by kernel_rfl) ?_ ?_
  rotate_left
  · intro w' hw'
    obtain ⟨q0, q1⟩ := U w' hw'
    go_simp
    try with_reducible rfl
  simp only [Act.put, List.setIfInBounds_toArray, List.set_cons_zero, List.set_cons_succ]
  refine seq_at (some 31) (v := ?_) rfl (by kernel_rfl) (by kernel_rfl) ?_ ?_
  rotate_left
  · intro w' hw'
    obtain ⟨q0, q1⟩ := U w' hw'
    go_simp
    try with_reducible rfl
  simp only [Act.put, List.setIfInBounds_toArray, List.set_cons_zero, List.set_cons_succ]
  refine seq_at (some 32) (v := ?_) rfl (by kernel_rfl) (by kernel_rfl) ?_ ?_
  rotate_left
  · intro w' hw'
    obtain ⟨q0, q1⟩ := U w' hw'
    go_simp
    try with_reducible rfl
  simp only [Act.put, List.setIfInBounds_toArray, List.set_cons_zero, List.set_cons_succ]
  clear U
  refine seq_eff rfl (by kernel_rfl) (fun K hK => ?_)
  go_simp
  refine (rnew_opt n1 _).mono ?_
  rintro e w3 ⟨P, rfl, hP, hb3⟩
  refine hK.out _ _ (.inl (Ex.below hb3)) ?_
  try simp only [Act.put, List.setIfInBounds_toArray, List.set_cons_zero, List.set_cons_succ]
  clear hK
  have HPx3 : Hid (PoolO w0.heap.size w1.heap.size n1 X w3) := Lib.hid (HPxd.out.later hb3)
  have HPy3 : Hid (PoolO w1.heap.size w2.heap.size n2 Y w3) := Lib.hid (HPyd.out.later hb3)
  have HB3 := Lib.hid (HBd.out.trans (hb3.mono (show g ≤ w2.drew.heap.size from by have : w2.drew.heap.size = w2.heap.size := rfl; omega)))
  have HRp : Hid (RefO w2.heap.size w3.heap.size n1 P w3) := Lib.hid hP
  have hs3 : w2.heap.size ≤ w3.heap.size := hb3.size
  clear hP hb3 HPxd HPyd HBd HPx2 HPy HB2 HX2
  refine seq_eff rfl (by kernel_rfl) (fun K hK => ?_)
  go_simp
  refine (rnew_opt n2 _).mono ?_
  rintro e w4 ⟨Q, rfl, hQ, hb4⟩
  refine hK.out _ _ (.inl (Ex.below hb4)) ?_
  try simp only [Act.put, List.setIfInBounds_toArray, List.set_cons_zero, List.set_cons_succ]
  clear hK
  have hs4 := hb4.size
  obtain ⟨T1, hT1⟩ : ∃ T1 : Nat → Prop, T1 = fun k => (w0.heap.size ≤ k ∧ k < w1.heap.size) ∨ (w2.heap.size ≤ k ∧ k < w3.heap.size) ∨ w4.heap.size ≤ k := ⟨_, rfl⟩
  obtain ⟨T2, hT2⟩ : ∃ T2 : Nat → Prop, T2 = fun k => (w1.heap.size ≤ k ∧ k < w2.heap.size) ∨ (w3.heap.size ≤ k ∧ k < w4.heap.size) := ⟨_, rfl⟩
  have HD1 : Hid (Duo T1 0 X P w4) := Lib.hid (duo_start (HPx3.out.later hb4) (HRp.out.later hb4) (fun k hk => by rw [hT1]; rcases hk with hk | hk; exact .inl hk; exact .inr (.inl hk)))
  have HD2 : Hid (Duo T2 0 Y Q w4) := Lib.hid (duo_start (HPy3.out.later hb4) hQ (fun k hk => by rw [hT2]; exact hk))
  have HB4 := Lib.hid (HB3.out.trans (hb4.mono (by omega)))
  have HT12 : Hid (∀ k, T2 k → ¬ T1 k) := Lib.hid (fun k h2 h1 => by rw [hT1] at h1; rw [hT2] at h2; omega)
  have HT1g : Hid (∀ k, T1 k → g ≤ k) := Lib.hid (fun k h1 => by rw [hT1] at h1; omega)
  have HT2g : Hid (∀ k, T2 k → g ≤ k) := Lib.hid (fun k h1 => by rw [hT2] at h1; omega)
  have HT1n : Hid (∀ k, w4.heap.size ≤ k → T1 k) := Lib.hid (fun k h1 => by rw [hT1]; exact .inr (.inr h1))
  have hg4 : g < w4.heap.size := by omega
  clear hT1 hT2 hQ hb4 HPx3 HPy3 HB3 HRp
  refine seq_at (some 11) (v := ?_) rfl (by kernel_rfl) (by kernel_rfl) ?_ ?_
  rotate_left
  · intro w' hw'
    go_simp
    try with_reducible rfl
  simp only [Act.put, List.setIfInBounds_toArray, List.set_cons_zero, List.set_cons_succ]
  refine seq_at (some 12) (v := ?_) rfl (by kernel_rfl) (by kernel_rfl) ?_ ?_
  rotate_left
  · intro w' hw'
    go_simp
    try with_reducible rfl
  simp only [Act.put, List.setIfInBounds_toArray, List.set_cons_zero, List.set_cons_succ]
  refine seq_nil ?_
  go_wp2_with fail
  go_loopg [7, 11, 13, 14] 60 (fun kk x p ok i wr => ∃ (j : Nat) (X P : Option Addr), x = .pointer X ∧ p = .pointer P ∧ ok = .bool true ∧ i = .int .i64 (j : Int) ∧ Hid (j + kk = 60 ∧ Duo T1 (j : Int) X P wr ∧ Duo T2 0 Y Q wr ∧ Below g w wr ∧ w4.heap.size ≤ wr.heap.size))
  case atStart => exact ⟨0, X, P, rfl, rfl, rfl, rfl, Lib.hid ⟨by omega, HD1.out, HD2.out, HB4.out, Nat.le_refl _⟩⟩
  case round =>
    obtain ⟨j, X', P', rfl, rfl, rfl, rfl, hj⟩ := hrel
    clear HD1 HD2 HB4
    go_upto_region 6 with fail
    go_cut [48] from 34 to 61 (fun v wc => v = .bool (goes j L.length P') ∧ wc = wr)
    case first =>
      by_cases h1 : j < L.length
      · have h1I : (j : Int) < (L.length : Int) := by omega
        by_cases h2 : j < 60
        · have h2I : (j : Int) < 60 := by omega
          cases P' with
          | none =>
            have HG : Hid (goes j L.length none = false) := Lib.hid (by simp [goes])
            clear hj
            go_wp2_with fail
            go_meet
            exact ⟨by rw [HG.out], rfl⟩
          | some pa =>
            have HG : Hid (goes j L.length (some pa) = true) := Lib.hid (by simp [goes, h1, h2])
            clear hj
            go_wp2_with fail
            go_meet
            exact ⟨by rw [HG.out], rfl⟩
        · have h2I : ¬ (j : Int) < 60 := by omega
          have HG : Hid (goes j L.length P' = false) := Lib.hid (by simp [goes, h2])
          clear hj
          go_wp2_with fail
          go_meet
          exact ⟨by rw [HG.out], rfl⟩
      · have h1I : ¬ (j : Int) < (L.length : Int) := by omega
        have HG : Hid (goes j L.length P' = false) := Lib.hid (by simp [goes, h1])
        clear hj
        go_wp2_with fail
        go_meet
        exact ⟨by rw [HG.out], rfl⟩
    case rest =>
      obtain ⟨rfl, rfl⟩ := hcut
      generalize wc = wA at *
      cases hgo : goes j L.length P' with
      | true =>
        simp only [goes, Bool.and_eq_true, decide_eq_true_eq] at hgo
        obtain ⟨hlt, h60, hP⟩ := hgo
        rcases hj.out.2.1 with ⟨_, rfl⟩ | ⟨b, r, S, rfl, rfl, hT⟩
        · cases hP
        · have hltI : (j : Int) < (L.length : Int) := by omega
          have hgj := List.getElem?_eq_getElem hlt
          generalize L[j] = x at *
          have hxo := HL.out x (List.mem_of_getElem? hgj)
          obtain ⟨a, rfl, hload⟩ := load_step HA.out HL.out hgj
          have hld := hload wA (by rw [HGE.out]; exact hj.out.2.2.2.1)
          have HD := Lib.hid (two_do hT ⟨by omega, by omega⟩ x hxo)
          clear hT hgj hload hxo hP
          go_wp2_with (refine wpList_load_run rfl 41 (.tmp 56) rfl (a.add (j * 104)) _ rfl hld ?_)
          refine HD.out.mono ?_
          rintro e w5 ⟨b5, r5, rfl, hT5, hx5⟩
          have hsz := hj.out.2.2.2.2
          have HN : Hid (Duo T1 ((j : Int) + 1) (some ⟨b5, 0, none⟩) (some ⟨r5, 0, none⟩) w5 ∧ Duo T2 0 Y Q w5 ∧ Below g w w5 ∧ w4.heap.size ≤ w5.heap.size) := Lib.hid
            ⟨.inr ⟨b5, r5, _, rfl, rfl, hT5.more (fun k hk => by rcases hk with hk | hk; exact hk; exact HT1n.out k (by omega))⟩, hj.out.2.2.1.kept hx5 HT12.out,
              hj.out.2.2.2.1.trans (hx5.toBelow (by omega) HT1g.out), Nat.le_trans hsz hx5.size⟩
          clear hT5 hx5 HD hld
          go_wp2_with fail
          go_roundg (gk - 1)
          case measure => have := hj.out; omega
          case rel => exact ⟨j + 1, _, _, rfl, rfl, rfl, (by go_num), Lib.hid ⟨(by have := hj.out; omega), HN.out⟩⟩
      | false =>
        obtain ⟨U1, hU1⟩ : ∃ U1 : Nat → Prop, U1 = fun k => T1 k ∧ k < wA.heap.size := ⟨_, rfl⟩
        obtain ⟨U2, hU2⟩ : ∃ U2 : Nat → Prop, U2 = fun k => T2 k ∨ wA.heap.size ≤ k := ⟨_, rfl⟩
        have HE1 : Hid (Duo U1 (j : Int) X' P' wA) := Lib.hid (by rw [hU1]; exact hj.out.2.1.inside)
        have HE2 : Hid (Duo U2 0 Y Q wA) := Lib.hid (hj.out.2.2.1.more (fun k hk => by rw [hU2]; exact .inl hk))
        have HU12 : Hid (∀ k, U1 k → ¬ U2 k) := Lib.hid (fun k h1 h2 => by
          rw [hU1] at h1
          rw [hU2] at h2
          rcases h2 with h2 | h2
          · exact HT12.out k h2 h1.1
          · omega)
        have hgw : g ≤ wA.heap.size := by have := hj.out.2.2.2.2; omega
        have HU2g : Hid (∀ k, U2 k → g ≤ k) := Lib.hid (fun k h2 => by
          rw [hU2] at h2
          rcases h2 with h2 | h2
          · exact HT2g.out k h2
          · omega)
        have HU2n : Hid (∀ k, wA.heap.size ≤ k → U2 k) := Lib.hid (fun k h => by rw [hU2]; exact .inr h)
        have HB5 := Lib.hid hj.out.2.2.2.1
        clear hU1 hU2 hj hgo
        go_wp2_with fail
        go_loopg [9, 12, 13, 15] 60 (fun kk y q ok i wr => ∃ (j2 : Nat) (Y Q : Option Addr), y = .pointer Y ∧ q = .pointer Q ∧ ok = .bool true ∧ i = .int .i64 (j2 : Int) ∧ Hid (j2 + kk = 60 ∧ Duo U2 (j2 : Int) Y Q wr ∧ Duo U1 (j : Int) X' P' wr ∧ Below g w wr ∧ wA.heap.size ≤ wr.heap.size))
        case atStart => exact ⟨0, Y, Q, rfl, rfl, rfl, rfl, Lib.hid ⟨by omega, HE2.out, HE1.out, HB5.out, Nat.le_refl _⟩⟩
        case round =>
          obtain ⟨j2, Y', Q', rfl, rfl, rfl, rfl, hj2⟩ := hrel
          clear HE1 HE2 HB5
          go_upto_region 10 with fail
          go_cut [76] from 62 to 89 (fun v wd => v = .bool (goes j2 L2.length Q') ∧ wd = wr)
          case first =>
            by_cases h1 : j2 < L2.length
            · have h1I : (j2 : Int) < (L2.length : Int) := by omega
              by_cases h2 : j2 < 60
              · have h2I : (j2 : Int) < 60 := by omega
                cases Q' with
                | none =>
                  have HG : Hid (goes j2 L2.length none = false) := Lib.hid (by simp [goes])
                  clear hj2
                  go_wp2_with fail
                  go_meet
                  exact ⟨by rw [HG.out], rfl⟩
                | some pa =>
                  have HG : Hid (goes j2 L2.length (some pa) = true) := Lib.hid (by simp [goes, h1, h2])
                  clear hj2
                  go_wp2_with fail
                  go_meet
                  exact ⟨by rw [HG.out], rfl⟩
              · have h2I : ¬ (j2 : Int) < 60 := by omega
                have HG : Hid (goes j2 L2.length Q' = false) := Lib.hid (by simp [goes, h2])
                clear hj2
                go_wp2_with fail
                go_meet
                exact ⟨by rw [HG.out], rfl⟩
            · have h1I : ¬ (j2 : Int) < (L2.length : Int) := by omega
              have HG : Hid (goes j2 L2.length Q' = false) := Lib.hid (by simp [goes, h1])
              clear hj2
              go_wp2_with fail
              go_meet
              exact ⟨by rw [HG.out], rfl⟩
          case rest =>
            obtain ⟨rfl, rfl⟩ := hcut
            cases hgo : goes j2 L2.length Q' with
            | true =>
              simp only [goes, Bool.and_eq_true, decide_eq_true_eq] at hgo
              obtain ⟨hlt, h60, hP⟩ := hgo
              rcases hj2.out.2.1 with ⟨_, rfl⟩ | ⟨b, r, S, rfl, rfl, hT⟩
              · cases hP
              · have hltI : (j2 : Int) < (L2.length : Int) := by omega
                have hgj := List.getElem?_eq_getElem hlt
                generalize L2[j2] = x at *
                have hxo := HL2.out x (List.mem_of_getElem? hgj)
                obtain ⟨a, rfl, hload⟩ := load_step HA2.out HL2.out hgj
                have hld := hload wc (by rw [HGE.out]; exact hj2.out.2.2.2.1)
                have HD := Lib.hid (two_do hT ⟨by omega, by omega⟩ x hxo)
                clear hT hgj hload hxo hP
                go_wp2_with (refine wpList_load_run rfl 41 (.tmp 84) rfl (a.add (j2 * 104)) _ rfl hld ?_)
                refine HD.out.mono ?_
                rintro e w5 ⟨b5, r5, rfl, hT5, hx5⟩
                have hsz := hj2.out.2.2.2.2
                have HN : Hid (Duo U2 ((j2 : Int) + 1) (some ⟨b5, 0, none⟩) (some ⟨r5, 0, none⟩) w5 ∧ Duo U1 (j : Int) X' P' w5 ∧ Below g w w5 ∧ wA.heap.size ≤ w5.heap.size) := Lib.hid
                  ⟨.inr ⟨b5, r5, _, rfl, rfl, hT5.more (fun k hk => by rcases hk with hk | hk; exact hk; exact HU2n.out k (by omega))⟩, hj2.out.2.2.1.kept hx5 HU12.out,
                    hj2.out.2.2.2.1.trans (hx5.toBelow (by omega) HU2g.out), Nat.le_trans hsz hx5.size⟩
                clear hT5 hx5 HD hld
                go_wp2_with fail
                go_roundg (gk - 1)
                case measure => have := hj2.out; omega
                case rel => exact ⟨j2 + 1, _, _, rfl, rfl, rfl, (by go_num), Lib.hid ⟨(by have := hj2.out; omega), HN.out⟩⟩
            | false =>
              obtain ⟨t, hsame⟩ := same_duo hj2.out.2.2.1 hj2.out.2.1
              have hself := same_self hj2.out.2.2.1
              have HSm := Lib.hid (hsame wc (Below.refl _ _)).1
              have HRm : Hid (∀ W, Below wc.heap.size wc W → Calls Try.prog 14 #[.pointer P', .pointer Q'] W (fun e w' => e = .returned (.bool t) ∧ Below W.heap.size W w')) := Lib.hid (fun W hW => (hsame W hW).2)
              have HSf := Lib.hid hself
              have HBc := Lib.hid hj2.out.2.2.2.1
              have hgc : g ≤ wc.heap.size := by have := hj2.out.2.2.2.2; omega
              clear hsame hself hj2 hgo
              go_wp2_with fail
              refine HSm.out.mono ?_
              rintro e w6 ⟨rfl, hb6⟩
              have H6 := Lib.hid hb6
              clear hb6
              go_wp2_with fail
              refine (HRm.out w6 H6.out).mono ?_
              rintro e w7 ⟨rfl, hb7⟩
              have H7 := Lib.hid (H6.out.trans (hb7.mono H6.out.size))
              clear hb7
              go_wp2_with fail
              refine (HSf.out w7 H7.out).mono ?_
              rintro e w8 ⟨rfl, hb8⟩
              have H8 := Lib.hid (H7.out.trans (hb8.mono H7.out.size))
              clear hb8
              go_wp2_with fail
              refine (known_any w8).mono ?_
              rintro e w9 ⟨rfl, hb9⟩
              have H9 := Lib.hid (HBc.out.trans ((H8.out.trans (hb9.mono H8.out.size)).mono hgc))
              clear hb9
              go_wp2_with fail
              go_ret
              exact ⟨rfl, by rw [HGE.out]; exact H9.out⟩
end Go.Proofs.Ytjbjfpbhacpeiaa
