/- Contracts of slices.Index, slices.Contains at fields, and of May's closure. -/
import Derived.Test.YtemmdlanidepbaaDoorOf
namespace Go.Proofs.YtemmdlanidepbaaDoor
open Go.RowKit
set_option linter.unusedSimpArgs false
set_option maxRecDepth 100000

/-- where it stands; -1: nowhere -/
def posOf (v : Int) : List Int → Nat → Int
  | [], _ => -1
  | x :: l, i => if v = x then (i : Int) else posOf v l (i + 1)
theorem posOf_mem (v : Int) : ∀ (l : List Int) (i : Nat), decide (0 ≤ posOf v l i) = decide (v ∈ l)
  | [], i => by simp [posOf]
  | x :: l, i => by
    rw [posOf]
    by_cases h : v = x
    · rw [if_pos h]; simp [h]
    · rw [if_neg h, posOf_mem v l (i + 1)]; simp [h]
theorem posOf_drop (v : Int) (l : List Int) (j : Nat) (hj : j < l.length) : posOf v (l.drop j) j = if v = l[j] then (j : Int) else posOf v (l.drop (j + 1)) (j + 1) := by
  rw [List.drop_eq_getElem_cons hj, posOf]

theorem index_any (A : Option Addr) (c : Nat) (l : List Int) (v : Int) (w : World) (hA : At w A (iv l)) (hl : l.length ≤ 1000) :
    Calls Tryd.prog 69 #[.slice A l.length c, .int .i64 v] w (fun e w' => e = .returned (.int .i64 (posOf v l 0)) ∧ w = w') := by
  go_enter Tryd.func69, Tryd.ntmps69
  go_wp2
  go_loopg [8] l.length (fun kk i wr => ∃ j : Nat, i = .int .i64 (j : Int) ∧ Hid (j + kk = l.length ∧ posOf v (l.drop j) j = posOf v l 0) ∧ w = wr)
  case atStart => exact ⟨0, rfl, ⟨Nat.zero_add _, rfl⟩, rfl⟩
  case round =>
    obtain ⟨j, rfl, hj, rfl⟩ := hrel
    by_cases hlt : j < l.length
    · obtain ⟨x, hx⟩ : ∃ x, l[j] = x := ⟨_, rfl⟩
      have hpd := posOf_drop v l j hlt
      rw [hx] at hpd
      obtain ⟨ad, rfl, hcell⟩ := hA j (.int .i64 x) (by simp [iv, List.getElem?_eq_getElem hlt, hx])
      by_cases hv : v = x
      · have he : (v == x) = true := by simp [hv]
        rw [if_pos hv] at hpd
        have HP := Lib.hid (hpd.symm.trans hj.out.2)
        clear hpd hv hx
        go_wp2
        all_goals
          (try rw [Exit.noGoto_ret])
          go_ret
          exact ⟨by rw [HP.out]; rfl, rfl⟩
      · have he : (v == x) = false := by simp [hv]
        rw [if_neg hv] at hpd
        have HP := Lib.hid (hpd.symm.trans hj.out.2)
        clear hpd hv hx
        go_wp2
        go_roundg (gk - 1)
        case measure => have := hj.out; omega
        case rel => exact ⟨j + 1, (by go_num), ⟨(by have := hj.out; omega), HP.out⟩, rfl⟩
    · have e : posOf v l 0 = -1 := by rw [← hj.out.2, List.drop_eq_nil_of_le (by omega)]; rfl
      go_wp2
      go_ret
      exact ⟨by rw [e]; rfl, rfl⟩
theorem contains_any (A : Option Addr) (c : Nat) (l : List Int) (v : Int) (w : World) (hA : At w A (iv l)) (hl : l.length ≤ 1000) :
    Calls Tryd.prog 42 #[.slice A l.length c, .int .i64 v] w (fun e w' => e = .returned (.bool (decide (v ∈ l))) ∧ w = w') := by
  have HP := Lib.hid (posOf_mem v l 0)
  go_enter Tryd.func42, Tryd.ntmps42
  go_wp2_with fail
  refine (index_any _ _ _ _ _ hA hl).mono ?_
  rintro e w' ⟨rfl, rfl⟩
  go_wp2_with fail
  go_ret
  exact ⟨by rw [HP.out]; rfl, rfl⟩
theorem has_any (g : Nat) (A : Option Addr) (c : Nat) (l : List Int) (v : Int) (w : World) (hc : w.cell? ⟨g, 0, none⟩ = some (.slice A l.length c)) (hA : At w A (iv l)) (hl : l.length ≤ 1000) :
    Calls Tryd.prog 41 #[.int .i64 v, .pointer (some ⟨g, 0, none⟩)] w (fun e w' => e = .returned (.bool (decide (v ∈ l))) ∧ w = w') := by
  go_enter Tryd.func41, Tryd.ntmps41
  go_wp2_with fail
  refine (contains_any _ _ _ _ _ hA hl).mono ?_
  rintro e w' ⟨rfl, rfl⟩
  go_wp2_with fail
  go_ret
  exact ⟨rfl, rfl⟩
end Go.Proofs.YtemmdlanidepbaaDoor
