/- The pools of the law, plainly: a list of places and a hand. No program in sight. -/
import Derived.Test.YtjbjfpbhacpeiaaLib
namespace Go.Proofs.Ytjbjfpbhacpeiaa
open Go.RowKit
set_option linter.unusedSimpArgs false

def I64 (n : Int) : Prop := -9223372036854775808 ≤ n ∧ n ≤ 9223372036854775807

/-- a frame -/
structure Fr where
  page : Int
  mode : Int
  op : Int
  first : Int
  psn : Int
  body : List UInt8
  dirty : Bool
structure Fr.Ok (f : Fr) : Prop where
  page : I64 f.page
  mode : I64 f.mode
  op : I64 f.op
  first : I64 f.first
  psn : I64 f.psn
  body : f.body.length = 96
def fr0 : Fr := ⟨0, 0, 0, 0, 0, List.replicate 96 0, false⟩
theorem i64_0 : I64 0 := by unfold I64; omega
theorem fr0_ok : fr0.Ok := ⟨i64_0, i64_0, i64_0, i64_0, i64_0, by simp [fr0]⟩
/-- may it be? -/
def mayF (f : Fr) : Bool :=
  decide (0 ≤ f.page) && decide (f.page ≤ 15) && (f.mode == 1 || f.mode == 2) && decide (0 ≤ f.op) && decide (f.op ≤ 4611686018427387904) && decide (0 ≤ f.first) && decide (f.first ≤ 2147483647) &&
    decide (0 ≤ f.psn) && decide (f.psn ≤ 2147483647) && (decide (0 < f.psn) || decide (f.body = List.replicate 96 0))

/-- a place: free, or with a frame -/
structure Live where
  used : Bool
  pins : Int
  f : Fr
abbrev Slot := Option Live
def Slot.has (p : Int) (x : Slot) : Bool := match x with
  | some l => l.f.page == p
  | none => false
/-- the first place that is such a one -/
def firstF (q : Slot → Bool) : List Slot → Nat → Option Nat
  | [], _ => none
  | x :: l, i => if q x = true then some i else firstF q l (i + 1)
theorem firstF_drop (q : Slot → Bool) (l : List Slot) (j : Nat) (hj : j < l.length) : firstF q (l.drop j) j = if q l[j] = true then some j else firstF q (l.drop (j + 1)) (j + 1) := by
  rw [List.drop_eq_getElem_cons hj, firstF]
theorem firstF_some {q : Slot → Bool} : ∀ {l : List Slot} {i k : Nat}, firstF q l i = some k → ∃ j, k = i + j ∧ ∃ x, l[j]? = some x ∧ q x = true
  | [], _, _, h => by cases h
  | x :: l, i, k, h => by
    rw [firstF] at h
    by_cases hq : q x = true
    · rw [if_pos hq] at h
      injection h with h
      exact ⟨0, h.symm, x, rfl, hq⟩
    · rw [if_neg hq] at h
      obtain ⟨j, e, y, hy, hqy⟩ := firstF_some h
      exact ⟨j + 1, by omega, y, by simpa using hy, hqy⟩
theorem firstF_none {q : Slot → Bool} : ∀ {l : List Slot} {i : Nat}, firstF q l i = none → ∀ x ∈ l, q x = false
  | [], _, _ => fun x hx => by cases hx
  | y :: l, i, h => fun x hx => by
    rw [firstF] at h
    by_cases hq : q y = true
    · rw [if_pos hq] at h; cases h
    · rw [if_neg hq] at h
      rcases List.mem_cons.1 hx with rfl | hx
      · simpa using hq
      · exact firstF_none h x hx
def posF (p : Int) (s : List Slot) : Option Nat := firstF (Slot.has p) s 0
def freeF (s : List Slot) : Option Nat := firstF (fun x => x.isNone) s 0
theorem posF_some {p : Int} {s : List Slot} {i : Nat} (h : posF p s = some i) : ∃ l, s[i]? = some (some l) ∧ l.f.page = p := by
  obtain ⟨j, e, x, hx, hq⟩ := firstF_some h
  rw [Nat.zero_add] at e
  subst e
  cases x with
  | none => cases hq
  | some l => exact ⟨l, hx, by simpa [Slot.has] using hq⟩
theorem posF_none {p : Int} {s : List Slot} (h : posF p s = none) : ∀ (i : Nat) (l : Live), s[i]? = some (some l) → l.f.page ≠ p := fun i l hi e => by
  have := firstF_none h (some l) (List.mem_of_getElem? hi)
  simp [Slot.has, e] at this
theorem freeF_some {s : List Slot} {i : Nat} (h : freeF s = some i) : s[i]? = some none := by
  obtain ⟨j, e, x, hx, hq⟩ := firstF_some h
  rw [Nat.zero_add] at e
  subst e
  cases x with
  | none => exact hx
  | some l => cases hq
theorem freeF_none {s : List Slot} (h : freeF s = none) : ∀ i : Nat, s[i]? ≠ some none := fun i e => by
  have := firstF_none h none (List.mem_of_getElem? e)
  cases this

/-- are two the same? -/
def frB (a b : Fr) : Bool := a.page == b.page && a.mode == b.mode && a.op == b.op && a.first == b.first && a.psn == b.psn && decide (a.body = b.body) && (a.dirty == b.dirty)
theorem frB_iff {a b : Fr} : frB a b = true ↔ a = b := by
  cases a; cases b
  simp [frB, and_assoc]
def slotB : Slot → Slot → Bool
  | none, none => true
  | some a, some b => a.used == b.used && a.pins == b.pins && frB a.f b.f
  | _, _ => false
theorem slotB_iff {a b : Slot} : slotB a b = true ↔ a = b := by
  cases a with
  | none => cases b <;> simp [slotB]
  | some a =>
    cases b with
    | none => simp [slotB]
    | some b =>
      cases a; cases b
      simp [slotB, frB_iff, and_assoc]
def slotsB : List Slot → List Slot → Bool
  | [], [] => true
  | a :: l, b :: m => slotB a b && slotsB l m
  | _, _ => false
theorem slotsB_iff : ∀ {a b : List Slot}, slotsB a b = true ↔ a = b
  | [], [] => by simp [slotsB]
  | [], _ :: _ => by simp [slotsB]
  | _ :: _, [] => by simp [slotsB]
  | a :: l, b :: m => by simp [slotsB, slotB_iff, slotsB_iff (a := l) (b := m)]
/-- a pool -/
structure PS where
  s : List Slot
  hand : Nat
def psB (a b : PS) : Bool := a.hand == b.hand && slotsB a.s b.s
theorem psB_iff {a b : PS} : psB a b = true ↔ a = b := by
  cases a; cases b
  simp [psB, slotsB_iff, and_comm]
/-- what holds of a pool: K: no frame is pinned more often -/
structure PS.Ok (K : Int) (S : PS) : Prop where
  pos : 1 ≤ S.s.length
  len : S.s.length ≤ 16
  hand : S.hand < S.s.length
  live : ∀ (i : Nat) (l : Live), S.s[i]? = some (some l) → l.f.Ok ∧ mayF l.f = true ∧ 0 ≤ l.pins ∧ l.pins ≤ K
  uniq : ∀ (i j : Nat) (l l' : Live), S.s[i]? = some (some l) → S.s[j]? = some (some l') → l.f.page = l'.f.page → i = j
theorem mayF_page {f : Fr} (h : mayF f = true) : 0 ≤ f.page ∧ f.page ≤ 15 := by
  simp only [mayF, Bool.and_eq_true, decide_eq_true_eq] at h
  exact ⟨h.1.1.1.1.1.1.1.1.1, h.1.1.1.1.1.1.1.1.2⟩
theorem PS.Ok.mono {K K' : Int} {S : PS} (h : S.Ok K) (hk : K ≤ K') : S.Ok K' := ⟨h.pos, h.len, h.hand, fun i l hl => by
  obtain ⟨a, b, c, d⟩ := h.live i l hl
  exact ⟨a, b, c, by omega⟩, h.uniq⟩
theorem posF_of {K : Int} {S : PS} (h : S.Ok K) {i : Nat} {l : Live} (hi : S.s[i]? = some (some l)) : posF l.f.page S.s = some i := by
  cases hp : posF l.f.page S.s with
  | none => exact absurd rfl (posF_none hp i l hi)
  | some j =>
    obtain ⟨l', hj, e⟩ := posF_some hp
    rw [h.uniq j i l' l hj hi e]

def S0 (n : Nat) : PS := ⟨List.replicate n none, 0⟩
def newS (n : Int) : Option PS := if 1 ≤ n ∧ n ≤ 16 then some (S0 n.toNat) else none
theorem S0_ok {n : Nat} (h1 : 1 ≤ n) (h2 : n ≤ 16) : (S0 n).Ok 0 := by
  refine ⟨by simpa [S0] using h1, by simpa [S0] using h2, by simp [S0]; omega, fun i l hl => ?_, fun i j l l' hl => ?_⟩
  all_goals
    simp only [S0, List.getElem?_replicate] at hl
    split at hl <;> simp at hl
/-- one place turned -/
def PS.put (S : PS) (i : Nat) (x : Slot) : PS := { S with s := S.s.set i x }
theorem PS.Ok.put {K : Int} {S : PS} (h : S.Ok K) (i : Nat) (l : Live) (hl : l.f.Ok ∧ mayF l.f = true ∧ 0 ≤ l.pins ∧ l.pins ≤ K) (hu : ∀ (j : Nat) (l' : Live), j ≠ i → S.s[j]? = some (some l') → l'.f.page ≠ l.f.page) : (S.put i (some l)).Ok K := by
  refine ⟨by simpa [PS.put] using h.pos, by simpa [PS.put] using h.len, by simpa [PS.put] using h.hand, fun j l' hj => ?_, fun j k l' l'' hj hk e => ?_⟩
  · simp only [PS.put, List.getElem?_set] at hj
    split at hj
    · split at hj
      · simp only [Option.some.injEq] at hj; subst hj; exact hl
      · cases hj
    · exact h.live j l' hj
  · simp only [PS.put, List.getElem?_set] at hj hk
    by_cases h1 : i = j
    · by_cases h2 : i = k
      · omega
      · rw [if_neg h2] at hk
        rw [if_pos h1] at hj
        split at hj
        · simp only [Option.some.injEq] at hj
          subst hj
          exact absurd e.symm (hu k l'' (Ne.symm h2) hk)
        · cases hj
    · rw [if_neg h1] at hj
      by_cases h2 : i = k
      · rw [if_pos h2] at hk
        split at hk
        · simp only [Option.some.injEq] at hk
          subst hk
          exact absurd e (hu j l' (Ne.symm h1) hj)
        · cases hk
      · rw [if_neg h2] at hk
        exact h.uniq j k l' l'' hj hk e
theorem PS.Ok.free {K : Int} {S : PS} (h : S.Ok K) (i : Nat) : (S.put i none).Ok K := by
  refine ⟨by simpa [PS.put] using h.pos, by simpa [PS.put] using h.len, by simpa [PS.put] using h.hand, fun j l' hj => ?_, fun j k l' l'' hj hk e => ?_⟩
  · simp only [PS.put, List.getElem?_set] at hj
    split at hj
    · split at hj <;> simp at hj
    · exact h.live j l' hj
  · simp only [PS.put, List.getElem?_set] at hj hk
    split at hj
    · split at hj <;> simp at hj
    · split at hk
      · split at hk <;> simp at hk
      · exact h.uniq j k l' l'' hj hk e
/-- the same frame's page at a place turned -/
theorem PS.Ok.same {K : Int} {S : PS} (h : S.Ok K) {i : Nat} {l l' : Live} (hi : S.s[i]? = some (some l)) (hl : l'.f.Ok ∧ mayF l'.f = true ∧ 0 ≤ l'.pins ∧ l'.pins ≤ K) (e : l'.f.page = l.f.page) : (S.put i (some l')).Ok K :=
  h.put i l' hl (fun j l'' hj hj' e' => hj (h.uniq j i l'' l hj' hi (e'.trans e)))

/-! ### the steps -/
def lookS (S : PS) (p : Int) : Option Live := match posF p S.s with
  | some i => (S.s[i]?).getD none
  | none => none
def setS (S : PS) (f : Fr) : Int × PS :=
  if mayF f = true then match posF f.page S.s with
    | some i => match (S.s[i]?).getD none with
      | some l => (0, S.put i (some { l with used := true, f := f }))
      | none => (0, S)
    | none => match freeF S.s with
      | some i => (0, S.put i (some ⟨true, 0, f⟩))
      | none => (5, S)
  else (2, S)
def getS (S : PS) (p : Int) : (Fr × Int) × PS := match posF p S.s with
  | some i => match (S.s[i]?).getD none with
    | some l => ((l.f, 0), S.put i (some { l with used := true }))
    | none => ((fr0, 6), S)
  | none => ((fr0, 6), S)
def dropS (S : PS) (p : Int) : (Fr × Int) × PS := match posF p S.s with
  | some i => match (S.s[i]?).getD none with
    | some l => ((l.f, 0), S.put i none)
    | none => ((fr0, 6), S)
  | none => ((fr0, 6), S)
def pinS (S : PS) (p by_ : Int) : Int × PS := match posF p S.s with
  | some i => match (S.s[i]?).getD none with
    | some l => if l.pins + by_ < 0 then (6, S) else (0, S.put i (some { l with pins := l.pins + by_ }))
    | none => (6, S)
  | none => (6, S)
def pinsS (S : PS) (p : Int) : Int := match lookS S p with
  | some l => l.pins
  | none => 0
def cntS (s : List Slot) : Nat := (s.filter (·.isSome)).length
def clearS (S : PS) : PS := S0 S.s.length
def canGo (x : Slot) : Bool := match x with
  | some l => l.pins == 0
  | none => false
/-- the hand goes round: so many rounds at most -/
def clock : Nat → PS → Option (Int × PS)
  | 0, _ => none
  | k + 1, S => match (S.s[S.hand]?).getD none with
    | none => clock k { S with hand := (S.hand + 1) % S.s.length }
    | some l =>
      if 0 < l.pins then clock k { S with hand := (S.hand + 1) % S.s.length }
      else if l.used = true then clock k { s := S.s.set S.hand (some { l with used := false }), hand := (S.hand + 1) % S.s.length }
      else some (l.f.page, { S with hand := (S.hand + 1) % S.s.length })
def victimS (S : PS) : (Int × Bool) × PS :=
  if S.s.any canGo = true then match clock 600 S with
    | some r => ((r.1, true), r.2)
    | none => ((0, false), S)
  else ((0, false), S)
def allS (S : PS) : List Fr := (List.range 16).filterMap fun p : Nat => (lookS S (p : Int)).map (·.f)
end Go.Proofs.Ytjbjfpbhacpeiaa
