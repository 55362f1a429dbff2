/- The hand's walk, plainly: it ends; what it leaves. No program in sight. -/
import Derived.Test.YtjbjfpbhacpeiaaPp
namespace Go.Proofs.Ytjbjfpbhacpeiaa
open Go.RowKit
set_option linter.unusedSimpArgs false
set_option linter.unusedVariables false

def usedB (x : Slot) : Bool := match x with
  | some l => l.used
  | none => false
def usedC (s : List Slot) : Nat := (s.filter usedB).length
theorem usedC_set {s : List Slot} : ∀ {i : Nat} {x : Slot}, s[i]? = some x → ∀ y : Slot, usedC (s.set i y) + (if usedB x = true then 1 else 0) = usedC s + (if usedB y = true then 1 else 0) := by
  induction s with
  | nil => intro i x h; simp at h
  | cons z s ih =>
    intro i x h y
    cases i with
    | zero =>
      simp only [List.getElem?_cons_zero, Option.some.injEq] at h
      subst h
      simp only [usedC, List.set_cons_zero, List.filter_cons]
      cases usedB z <;> cases usedB y <;> simp
    | succ i =>
      have := ih (i := i) (by simpa using h) y
      simp only [usedC, List.set_cons_succ, List.filter_cons] at this ⊢
      cases usedB z <;> simp <;> omega
theorem usedC_le (s : List Slot) : usedC s ≤ s.length := List.length_filter_le _ _
/-- the step that the hand takes -/
def stepH (S : PS) : PS := { S with hand := (S.hand + 1) % S.s.length }
def stepU (S : PS) (l : Live) : PS := { s := S.s.set S.hand (some { l with used := false }), hand := (S.hand + 1) % S.s.length }
theorem clock_ends : ∀ (N : Nat) (S : PS) (d : Nat), S.hand < S.s.length → S.s.length ≤ 16 → (∀ (i : Nat) (l : Live), S.s[i]? = some (some l) → 0 ≤ l.pins) →
    (∃ x, S.s[(S.hand + d) % S.s.length]? = some x ∧ canGo x = true) → 17 * usedC S.s + d < N → ∃ r, clock N S = some r
  | 0, _, _, _, _, _, _, h => absurd h (by omega)
  | N + 1, S, d, hh, hn, hp, ⟨x, hx, hg⟩, hN => by
    have hs := List.getElem?_eq_getElem hh
    have next : canGo S.s[S.hand] = false → ∃ r, clock N (stepH S) = some r := fun hc => by
      have hd : d ≠ 0 := fun e => by
        subst e
        rw [Nat.add_zero, Nat.mod_eq_of_lt hh, hs] at hx
        injection hx with hx
        rw [hx, hg] at hc
        cases hc
      refine clock_ends N (stepH S) (d - 1) (Nat.mod_lt _ (by show 0 < S.s.length; omega)) hn hp ⟨x, ?_, hg⟩ ?_
      · show S.s[((S.hand + 1) % S.s.length + (d - 1)) % S.s.length]? = some x
        rw [Nat.mod_add_mod, show S.hand + 1 + (d - 1) = S.hand + d by omega]
        exact hx
      · show 17 * usedC S.s + (d - 1) < N
        omega
    simp only [clock, hs, Option.getD_some]
    cases hl : S.s[S.hand] with
    | none =>
      rw [hl] at next
      exact next rfl
    | some l =>
      rw [hl] at next hs
      have h0 := hp _ _ hs
      by_cases hpn : 0 < l.pins
      · simp only [hpn, if_true]
        exact next (by simp [canGo]; omega)
      · simp only [hpn, if_false]
        by_cases hu : l.used = true
        · simp only [hu, if_true]
          have hlen : (stepU S l).s.length = S.s.length := by simp [stepU]
          have hu2 := usedC_set hs (some { l with used := false })
          simp only [usedB, hu, if_true] at hu2
          refine clock_ends N (stepU S l) (S.s.length - 1) (by rw [hlen]; exact Nat.mod_lt _ (by omega)) (by omega) (fun i l' hi => ?_) ⟨some { l with used := false }, ?_, ?_⟩ ?_
          · simp only [stepU, List.getElem?_set] at hi
            by_cases he : S.hand = i
            · rw [if_pos he] at hi
              first
                | (rw [if_pos hh] at hi; simp only [Option.some.injEq] at hi; subst hi; exact h0)
                | (simp only [Option.some.injEq] at hi; subst hi; exact h0)
            · rw [if_neg he] at hi
              exact hp i l' hi
          · rw [hlen]
            show (S.s.set S.hand (some { l with used := false }))[((S.hand + 1) % S.s.length + (S.s.length - 1)) % S.s.length]? = _
            rw [Nat.mod_add_mod, show S.hand + 1 + (S.s.length - 1) = S.hand + S.s.length by omega, Nat.add_mod_right, Nat.mod_eq_of_lt hh]
            simp [hh]
          · simp [canGo]; omega
          · show 17 * usedC (S.s.set S.hand (some { l with used := false })) + (S.s.length - 1) < N
            simp at hu2
            omega
        · simp only [hu]
          exact ⟨_, rfl⟩
theorem any_at {q : Slot → Bool} {s : List Slot} (h : s.any q = true) : ∃ (i : Nat) (x : Slot), s[i]? = some x ∧ q x = true := by
  obtain ⟨x, hx, hq⟩ := List.any_eq_true.1 h
  obtain ⟨i, hi, e⟩ := List.mem_iff_getElem.1 hx
  exact ⟨i, x, by rw [List.getElem?_eq_getElem hi, e], hq⟩
theorem ring_to {h n i : Nat} (hh : h < n) (hi : i < n) : ∃ d, d < n ∧ (h + d) % n = i := by
  by_cases hle : h ≤ i
  · exact ⟨i - h, by omega, by rw [show h + (i - h) = i by omega, Nat.mod_eq_of_lt hi]⟩
  · exact ⟨i + n - h, by omega, by rw [show h + (i + n - h) = i + n by omega, Nat.add_mod_right, Nat.mod_eq_of_lt hi]⟩
section
variable {K : Int} {S : PS}
theorem clock_some (h : S.Ok K) (hg : S.s.any canGo = true) : ∃ r, clock 600 S = some r := by
  obtain ⟨i, x, hi, hx⟩ := any_at hg
  obtain ⟨d, hd, e⟩ := ring_to h.hand (List.getElem?_eq_some_iff.1 hi).1
  have h1 := usedC_le S.s
  have h2 := h.len
  exact clock_ends 600 S d h.hand h.len (fun i l hl => (h.live i l hl).2.2.1) ⟨x, by rw [e]; exact hi, hx⟩ (by omega)
/-- what the walk leaves -/
theorem clock_ok : ∀ (N : Nat) {S : PS} {r : Int × PS}, S.Ok K → clock N S = some r → r.2.Ok K ∧ r.2.s.length = S.s.length ∧ ∃ l : Live, (∃ i : Nat, S.s[i]? = some (some l)) ∧ r.1 = l.f.page
  | 0, _, _, _, h => by cases h
  | N + 1, S, r, hS, h => by
    have hs := List.getElem?_eq_getElem hS.hand
    have hk : (S.hand + 1) % S.s.length < S.s.length := Nat.mod_lt _ (by have := hS.pos; omega)
    have turn : (stepH S).Ok K := ⟨hS.pos, hS.len, hk, hS.live, hS.uniq⟩
    simp only [clock, hs, Option.getD_some] at h
    cases hl : S.s[S.hand]'hS.hand with
    | none =>
      rw [hl] at h
      exact clock_ok N (S := stepH S) turn h
    | some l =>
      rw [hl] at h hs
      dsimp only at h
      by_cases hpn : 0 < l.pins
      · rw [if_pos hpn] at h
        exact clock_ok N (S := stepH S) turn h
      · rw [if_neg hpn] at h
        by_cases hu : l.used = true
        · rw [if_pos hu] at h
          have hu2 : (stepU S l).Ok K := by
            have h1 := turn.same (i := S.hand) (l := l) (l' := { l with used := false }) hs ⟨(hS.live _ _ hs).1, (hS.live _ _ hs).2⟩ rfl
            exact h1
          obtain ⟨a1, a2, l', ⟨i, hi⟩, e⟩ := clock_ok N hu2 h
          refine ⟨a1, a2.trans (by simp [stepU]), ?_⟩
          simp only [stepU, List.getElem?_set] at hi
          by_cases he : S.hand = i
          · rw [if_pos he] at hi
            first
              | (rw [if_pos hS.hand] at hi; simp only [Option.some.injEq] at hi; subst hi; exact ⟨l, ⟨_, hs⟩, e⟩)
              | (simp only [Option.some.injEq] at hi; subst hi; exact ⟨l, ⟨_, hs⟩, e⟩)
          · rw [if_neg he] at hi
            exact ⟨l', ⟨i, hi⟩, e⟩
        · rw [if_neg hu] at h
          injection h with h
          subst h
          exact ⟨turn, rfl, l, ⟨_, hs⟩, rfl⟩
theorem victimS_ok (h : S.Ok K) : (victimS S).2.Ok K ∧ (victimS S).2.s.length = S.s.length ∧ 0 ≤ (victimS S).1.1 ∧ (victimS S).1.1 ≤ 15 := by
  unfold victimS
  by_cases hg : S.s.any canGo = true
  · rw [if_pos hg]
    obtain ⟨r, hr⟩ := clock_some h hg
    obtain ⟨a, b, l, ⟨i, hi⟩, e⟩ := clock_ok 600 h hr
    rw [hr]
    have := mayF_page (h.live i l hi).2.1
    exact ⟨a, b, by rw [e]; exact this.1, by rw [e]; exact this.2⟩
  · rw [if_neg hg]
    exact ⟨h, rfl, Int.le_refl 0, (by decide : (0 : Int) ≤ 15)⟩
theorem victimS_yes (h : S.Ok K) (hg : S.s.any canGo = true) : ∃ r, clock 600 S = some r ∧ victimS S = ((r.1, true), r.2) := by
  obtain ⟨r, hr⟩ := clock_some h hg
  exact ⟨r, hr, by unfold victimS; rw [if_pos hg, hr]⟩
theorem victimS_no (hg : S.s.any canGo = false) : victimS S = ((0, false), S) := by unfold victimS; rw [if_neg (by rw [hg]; decide)]
end
end Go.Proofs.Ytjbjfpbhacpeiaa
