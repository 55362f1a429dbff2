/- Contracts of the writers: millpondref01.Number, Signed, Flag, Bytes of both, Join, spoil. -/
import Derived.Test.YtemmdlanidepbaaDoorNum
namespace Go.Proofs.YtemmdlanidepbaaDoor
open Go.RowKit

set_option maxRecDepth 100000 in
theorem refNumber_any (n : Nat) (hn : U64 n) (w : World) :
    Calls Tryd.prog 55 #[.int .u64 (n : Int)] w (NewRow w (enc n)) := by
  go_enter Tryd.func55, Tryd.ntmps55
  go_wp2
  go_loopg [0, 3] n (fun k i v wr => ∃ (m : Nat) (l : List UInt8), i = .int .u64 (m : Int) ∧ Hid (l ++ enc m = enc n ∧ U64 m ∧ m ≤ k) ∧ wr.ownsRow w.heap.size 5 1 v l.length (bv l) ∧ Below w.heap.size w wr)
  case atStart => exact ⟨n, [], rfl, ⟨rfl, hn, Nat.le_refl _⟩, World.ownsRow_nil _ _ _ _, Below.refl _ _⟩
  case round =>
    obtain ⟨m, l, rfl, hl, ho, hb⟩ := hrel
    have hll : l.length ≤ 10 := by have h1 := enc_len hn; have h2 := congrArg List.length hl.out.1; simp at h2; omega
    have hmu : (m : Int) ≤ 18446744073709551615 := by have := hl.out.2.1; unfold U64 at this; omega
    by_cases hm : 127 < m
    · go_wp2_with (first | (at_builtin; refine app_byte rfl _ _ 28 rfl w.heap.size 5 Tryd.underlying28 infoU8 u3 l rfl ho _ (UInt8.ofNat (m % 128 + 128)) ?q rfl (by omega) hb.size ?_; (case q => exact add128 m); intro v' w' ho' hg hv))
      go_roundg (m / 128)
      case measure => have := hl.out.2.2; omega
      case rel => exact ⟨m / 128, _, (by go_num), step_big hl.out hm, ho', Bl.grown hb hg (fun k hk => (ho.lt k hk).1)⟩
    · go_wp2_with (first | (at_builtin; refine app_byte rfl _ _ 28 rfl w.heap.size 5 Tryd.underlying28 infoU8 u3 l rfl ho _ (UInt8.ofNat m) ?q rfl (by omega) hb.size ?_; (case q => exact ofNat_small hm); intro v' w' ho' hg hv))
      go_ret
      have e : l ++ [UInt8.ofNat m] = enc n := by rw [← hl.out.1, enc_small (by omega)]
      rw [e] at ho'
      obtain ⟨g, c, rfl⟩ := own_pos ho' (enc_pos n)
      exact ⟨g, c, rfl, ho', Bl.grown hb hg (fun k hk => (ho.lt k hk).1)⟩

/-- a flag's form -/
def flg (b : Bool) : List UInt8 := [if b then 1 else 0]
theorem flag_row (b : Bool) (w : World) : NewRow w (flg b) (.returned (.slice (some ⟨w.heap.size, 0, none⟩) 1 1)) (w.alloc (.cells #[.int .u8 (if b then 1 else 0)] 5)) := by
  refine ⟨w.heap.size, 1, rfl, ?_, (Below.refl _ _).alloc (Nat.le_refl _) _⟩
  have := World.ownsRow_lit (base := w.heap.size) (e := 5) (size := 1) w #[.int .u8 (if b then 1 else 0)] 1 (Nat.le_refl _) (by simp [maxLen]) rfl
  cases b <;> exact this

theorem flag_any (b : Bool) (w : World) : Calls Tryd.prog 37 #[.bool b] w (NewRow w (flg b)) := by
  have h := flag_row b w
  cases b
  all_goals
    go_enter Tryd.func37, Tryd.ntmps37
    go_wp2_with fail
    go_ret
    exact h
theorem refFlag_any (b : Bool) (w : World) : Calls Tryd.prog 56 #[.bool b] w (NewRow w (flg b)) := by
  have h := flag_row b w
  cases b
  all_goals
    go_enter Tryd.func56, Tryd.ntmps56
    go_wp2_with fail
    go_ret
    exact h

/-- the form of bytes -/
def encB (l : List UInt8) : List UInt8 := enc l.length ++ l

theorem app_num {l m : List UInt8} {w w1 w2 : World} {g c : Nat} {v : Value} (_ho : w1.ownsRow w.heap.size 5 1 (.slice (some ⟨g, 0, none⟩) l.length c) l.length (bv l)) (hb : Below w.heap.size w w1)
    (h2 : w2.ownsRow w.heap.size 5 1 v (l.length + m.length) (bv l ++ bv m)) (hg : w1.grownBy w2 (some g)) (hp : 0 < l.length) : NewRow w (l ++ m) (.returned v) w2 := by
  rw [← bv_app, ← List.length_append] at h2
  obtain ⟨g', c', rfl⟩ := own_pos h2 (by simp; omega)
  exact ⟨g', c', rfl, h2, Bl.grown hb hg (fun k hk => by injection hk with hk; subst hk; exact (_ho.lt g rfl).1)⟩

theorem bytes_any (A : Option Addr) (c : Nat) (l : List UInt8) (w : World) (hA : At w A (bv l)) (hl : l.length ≤ 140737488351232) :
    Calls Tryd.prog 39 #[.slice A l.length c] w (NewRow w (encB l)) := by
  have hu : U64 l.length := by unfold U64; omega
  have hel := enc_len hu
  go_enter Tryd.func39, Tryd.ntmps39
  go_wp2_with fail
  refine (number_any _ hu _).mono ?_
  rintro e w1 ⟨g, cc, rfl, ho, hb⟩
  go_wp2_with (at_builtin; refine app_rows w1 rfl _ _ 28 rfl w.heap.size 5 (.int .u8 0) 1 1 Tryd.underlying28 infoU8 rfl (by omega) _ _ _ rfl ho A l.length c (bv l) rfl (by simp [bv_len]) (hA.mono hb) (bv_one _) (by simp only [maxLen]; omega) (by omega) hb.size ?_; intro v' w' ho' hg _)
  go_ret
  exact app_num ho hb ho' hg (enc_pos _)

theorem refBytes_any (A : Option Addr) (c : Nat) (l : List UInt8) (w : World) (hA : At w A (bv l)) (hl : l.length ≤ 140737488351232) :
    Calls Tryd.prog 57 #[.slice A l.length c] w (NewRow w (encB l)) := by
  have hu : U64 l.length := by unfold U64; omega
  have hel := enc_len hu
  go_enter Tryd.func57, Tryd.ntmps57
  go_wp2_with fail
  refine (refNumber_any _ hu _).mono ?_
  rintro e w1 ⟨g, cc, rfl, ho, hb⟩
  go_wp2_with (at_builtin; refine app_rows w1 rfl _ _ 28 rfl w.heap.size 5 (.int .u8 0) 1 1 Tryd.underlying28 infoU8 rfl (by omega) _ _ _ rfl ho A l.length c (bv l) rfl (by simp [bv_len]) (hA.mono hb) (bv_one _) (by simp only [maxLen]; omega) (by omega) hb.size ?_; intro v' w' ho' hg _)
  go_ret
  exact app_num ho hb ho' hg (enc_pos _)

/-- slices of bytes, read -/
def RowsAt (w : World) (A : Option Addr) (L : List (List UInt8)) : Prop := ∃ vs : List Value, vs.length = L.length ∧ At w A vs ∧ ∀ j (h : j < L.length), ∃ Ai ci, vs[j]? = some (.slice Ai (L[j]).length ci) ∧ (L[j]).length ≤ ci ∧ At w Ai (bv (L[j]))
theorem RowsAt.mono {w w1 : World} {A : Option Addr} {L : List (List UInt8)} (h : RowsAt w A L) (hb : Below w.heap.size w w1) : RowsAt w1 A L := by
  obtain ⟨vs, h1, h2, h3⟩ := h
  exact ⟨vs, h1, h2.mono hb, fun j hj => by obtain ⟨Ai, ci, e1, e2, e3⟩ := h3 j hj; exact ⟨Ai, ci, e1, e2, e3.mono hb⟩⟩
theorem RowsAt.get {w : World} {A : Option Addr} {L : List (List UInt8)} (h : RowsAt w A L) (j : Nat) (hj : j < L.length) : ∃ ad Ai ci, A = some ad ∧ w.cell? (ad.add j) = some (.slice Ai (L[j]).length ci) ∧ (L[j]).length ≤ ci ∧ At w Ai (bv (L[j])) := by
  obtain ⟨vs, h1, h2, h3⟩ := h
  obtain ⟨Ai, ci, e1, e2, e3⟩ := h3 j hj
  obtain ⟨ad, hA, hc⟩ := h2 j _ e1
  exact ⟨ad, Ai, ci, hA, hc, e2, e3⟩

end Go.Proofs.YtemmdlanidepbaaDoor
