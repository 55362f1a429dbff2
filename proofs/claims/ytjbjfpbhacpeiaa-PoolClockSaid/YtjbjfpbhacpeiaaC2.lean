/- Which pages may go; how often each came; what was used just now. No program in sight. -/
import Derived.Test.YtjbjfpbhacpeiaaC1
namespace Go.Proofs.Ytjbjfpbhacpeiaa
open Go.RowKit
set_option linter.unusedSimpArgs false
set_option linter.unusedVariables false
set_option linter.unusedSectionVars false

def pageO (x : Slot) : Option Int := match x with
  | some l => if l.pins = 0 then some l.f.page else none
  | none => none
theorem item_page (x : Slot) : (itemS x).map (·.1) = (pageO x).toList := by
  cases x with
  | none => rfl
  | some l => by_cases h : l.pins = 0 <;> simp [itemS, pageO, h]
theorem map_item : ∀ L : List Slot, (L.flatMap itemS).map (·.1) = L.filterMap pageO
  | [] => rfl
  | x :: L => by
    rw [List.flatMap_cons, List.map_append, item_page, map_item L]
    cases h : pageO x with
    | none => rw [List.filterMap_cons_none h]; rfl
    | some p => rw [List.filterMap_cons_some h]; rfl
def pagesQ (S : PS) : List Int := (queue S).map (·.1)
theorem pages_perm (S : PS) : (pagesQ S).Perm (S.s.filterMap pageO) := by
  unfold pagesQ
  rw [← map_item]
  refine List.Perm.map _ (List.Perm.flatMap_right _ ?_)
  unfold ring
  have e : S.s = S.s.take S.hand ++ S.s.drop S.hand := (List.take_append_drop _ _).symm
  conv => rhs; rw [e]
  exact List.perm_append_comm
section
variable {K : Int} {S : PS} (h : S.Ok K)
include h
theorem pages_nodup : (pagesQ S).Nodup := by
  rw [(pages_perm S).nodup_iff]
  unfold List.Nodup
  rw [List.pairwise_filterMap, List.pairwise_iff_getElem]
  intro i j hi hj hij p hp p' hp' e
  have hgi := List.getElem?_eq_getElem hi
  have hgj := List.getElem?_eq_getElem hj
  cases hx : S.s[i] with
  | none => rw [hx] at hp; cases hp
  | some l =>
    cases hy : S.s[j] with
    | none => rw [hy] at hp'; cases hp'
    | some l' =>
      rw [hx] at hp hgi
      rw [hy] at hp' hgj
      simp only [pageO] at hp hp'
      split at hp
      · split at hp'
        · injection hp with hp
          injection hp' with hp'
          have := h.uniq i j l l' hgi hgj (by rw [hp, hp', e])
          omega
        · cases hp'
      · cases hp
theorem pages_mem (p : Int) : p ∈ pagesQ S ↔ ∃ (i : Nat) (l : Live), S.s[i]? = some (some l) ∧ l.f.page = p ∧ l.pins = 0 := by
  rw [(pages_perm S).mem_iff, List.mem_filterMap]
  constructor
  · rintro ⟨x, hx, e⟩
    obtain ⟨i, hi, rfl⟩ := List.mem_iff_getElem.1 hx
    cases hl : S.s[i] with
    | none => rw [hl] at e; cases e
    | some l =>
      rw [hl] at e
      simp only [pageO] at e
      split at e
      · rename_i h0
        injection e with e
        exact ⟨i, l, by rw [List.getElem?_eq_getElem hi, hl], e, h0⟩
      · cases e
  · rintro ⟨i, l, hi, rfl, h0⟩
    exact ⟨some l, List.mem_of_getElem? hi, by simp [pageO, h0]⟩
end
/-- the pages that may go, rising -/
def freeG (S : PS) (n : Nat) : Bool := (lookV S (n : Int)).2 && (pinsS S (n : Int) == 0)
def freeK (S : PS) (k : Nat) : List Nat := (List.range k).filter (freeG S)
def freeL (S : PS) : List Nat := freeK S 16
theorem freeK_yes {S : PS} {k : Nat} (h : freeG S k = true) : freeK S (k + 1) = freeK S k ++ [k] := by
  unfold freeK
  rw [List.range_succ, List.filter_append]
  simp [h]
theorem freeK_no {S : PS} {k : Nat} (h : freeG S k = false) : freeK S (k + 1) = freeK S k := by
  unfold freeK
  rw [List.range_succ, List.filter_append]
  simp [h]
theorem freeK_le (S : PS) (k : Nat) : (freeK S k).length ≤ k := by
  have := List.length_filter_le (freeG S) (List.range k)
  rw [List.length_range] at this
  exact this
section
variable {K : Int} {S : PS} (h : S.Ok K)
include h
theorem freeL_mem (n : Nat) : n ∈ freeL S ↔ ((n : Int)) ∈ pagesQ S := by
  rw [pages_mem h]
  unfold freeL freeK
  rw [List.mem_filter, List.mem_range]
  constructor
  · rintro ⟨h1, h2⟩
    simp only [freeG, Bool.and_eq_true, beq_iff_eq] at h2
    obtain ⟨h2, h3⟩ := h2
    cases hp : posF (n : Int) S.s with
    | none => simp [lookV, lookS, hp] at h2
    | some i =>
      obtain ⟨l, hl, e⟩ := posF_some hp
      refine ⟨i, l, hl, e, ?_⟩
      simpa [pinsS, lookS, hp, hl] using h3
  · rintro ⟨i, l, hl, e, h0⟩
    have hp := posF_of h hl
    rw [e] at hp
    have hpg := mayF_page (h.live i l hl).2.1
    refine ⟨by omega, ?_⟩
    simp only [freeG, Bool.and_eq_true, beq_iff_eq]
    refine ⟨by simp [lookV, lookS, hp, hl], by simp [pinsS, lookS, hp, hl, h0]⟩
theorem freeL_nodup : (freeL S).Nodup := by
  unfold freeL freeK
  exact (List.nodup_range (n := 16)).sublist (List.filter_sublist)
theorem freeL_len : (freeL S).length = (queue S).length := by
  have h1 : ((freeL S).map (fun n : Nat => (n : Int))).Nodup := by
    unfold List.Nodup
    rw [List.pairwise_map]
    exact (freeL_nodup h).imp (fun hne e => hne (by omega))
  have h2 : ((freeL S).map (fun n : Nat => (n : Int))) ⊆ pagesQ S := fun p hp => by
    obtain ⟨n, hn, rfl⟩ := List.mem_map.1 hp
    exact (freeL_mem h n).1 hn
  have h3 : pagesQ S ⊆ (freeL S).map (fun n : Nat => (n : Int)) := fun p hp => by
    obtain ⟨i, l, hl, e, h0⟩ := (pages_mem h p).1 hp
    have hpg := mayF_page (h.live i l hl).2.1
    refine List.mem_map.2 ⟨p.toNat, ?_, by omega⟩
    rw [freeL_mem h, show ((p.toNat : Nat) : Int) = p by omega]
    exact hp
  have a := h1.length_le_of_subset h2
  have b := (pages_nodup h).length_le_of_subset h3
  simp only [List.length_map, pagesQ] at a b
  omega
theorem free_none (he : (freeL S).length = 0) : victimS S = ((0, false), S) := by
  refine victimS_no ?_
  rw [Bool.eq_false_iff]
  intro hc
  have := any_queue.1 hc
  rw [freeL_len h] at he
  exact this (List.length_eq_zero_iff.1 he)
theorem free_some (he : (freeL S).length ≠ 0) : queue S ≠ [] := fun e => he (by rw [freeL_len h, e]; rfl)
end
/-- how often each came, of so many -/
def cntV (S : PS) (f k : Nat) (v : Int) : Nat := ((List.range k).map fun i => vv (f + i) S).count v
theorem cntV_zero (S : PS) (f : Nat) (v : Int) : cntV S f 0 v = 0 := rfl
theorem cntV_succ (S : PS) (f k : Nat) (v : Int) : cntV S f (k + 1) v = cntV S f k v + if vv (f + k) S = v then 1 else 0 := by
  unfold cntV
  rw [List.range_succ, List.map_append, List.count_append]
  congr 1
  simp only [List.map_cons, List.map_nil, List.count_cons, List.count_nil, Nat.zero_add]
  by_cases e : vv (f + k) S = v <;> simp [e]
theorem cntV_le (S : PS) (f k : Nat) (v : Int) : cntV S f k v ≤ k := by
  have := List.count_le_length (a := v) (l := (List.range k).map fun i => vv (f + i) S)
  simpa [cntV] using this
section
variable {K : Int} {S : PS} (h : S.Ok K)
include h
theorem cntV_two (hq : queue S ≠ []) {n : Nat} (hn : n ∈ freeL S) : cntV S (freeL S).length (2 * (freeL S).length) (n : Int) = 2 := by
  have hl : (queue S).length = (freeL S).length := (freeL_len h).symm
  obtain ⟨_, h2, _⟩ := vst_twice h hq hl
  unfold cntV
  rw [h2, List.count_append]
  have hp := (vst_perm h hq (freeL S).length).1
  rw [hp.count_eq]
  have hc := (pages_nodup h).count (a := (n : Int))
  rw [if_pos ((freeL_mem h n).1 hn)] at hc
  unfold pagesQ at hc
  rw [hc]
theorem vv_range (hq : queue S ≠ []) (k : Nat) : 0 ≤ vv k S ∧ vv k S ≤ 15 ∧ (victimS (vst k S)).1.2 = true := by
  have h1 := victimS_ok (vst_ok h k)
  exact ⟨h1.2.2.1, h1.2.2.2, vic_true (vst_ok h k) (vst_perm h hq k).2⟩
/-- a page used just now: its mark in the queue -/
theorem get_queue (p : Int) : queue (getS S p).2 = (queue S).map fun y => if y.1 = p then (y.1, true) else y := by
  have key : ∃ G : Slot → Slot, (getS S p).2 = { S with s := S.s.map G } ∧ ∀ x ∈ S.s, itemS (G x) = (itemS x).map fun y => if y.1 = p then (y.1, true) else y := by
    refine ⟨fun x => match x with
      | some l => if l.f.page = p then some { l with used := true } else some l
      | none => none, ?_, ?_⟩
    · cases hi : posF p S.s with
      | none =>
        rw [getS_miss hi]
        have e : S.s.map (fun x : Slot => match x with
          | some l => if l.f.page = p then some { l with used := true } else some l
          | none => none) = S.s := by
          apply List.ext_getElem?
          intro i
          rw [List.getElem?_map]
          cases hx : S.s[i]? with
          | none => rfl
          | some x =>
            cases x with
            | none => rfl
            | some l =>
              have := posF_none hi i l hx
              simp [this]
        rw [e]
      | some i =>
        obtain ⟨l, hl, e⟩ := posF_some hi
        rw [getS_hit hi hl]
        show PS.mk _ _ = PS.mk _ _
        congr 1
        apply List.ext_getElem?
        intro j
        rw [List.getElem?_map, List.getElem?_set]
        by_cases hj : i = j
        · subst hj
          have hlt := (List.getElem?_eq_some_iff.1 hl).1
          rw [if_pos rfl, if_pos hlt, hl]
          simp [e]
        · rw [if_neg hj]
          cases hx : S.s[j]? with
          | none => rfl
          | some x =>
            cases x with
            | none => rfl
            | some l' =>
              have hne : l'.f.page ≠ p := fun e' => hj (h.uniq i j l l' hl hx (by rw [e, e']))
              simp [hne]
    · intro x hx
      cases x with
      | none => rfl
      | some l =>
        by_cases hp : l.f.page = p
        · by_cases h0 : l.pins = 0 <;> simp [itemS, hp, h0]
        · by_cases h0 : l.pins = 0 <;> simp [itemS, hp, h0]
  obtain ⟨G, e, hG⟩ := key
  rw [e]
  unfold queue ring
  dsimp only
  rw [← List.map_drop, ← List.map_take, ← List.map_append]
  have : ∀ L : List Slot, (∀ x ∈ L, x ∈ S.s) → (L.map G).flatMap itemS = (L.flatMap itemS).map fun y => if y.1 = p then (y.1, true) else y := by
    intro L
    induction L with
    | nil => intro _; rfl
    | cons x L ih =>
      intro hL
      rw [List.map_cons, List.flatMap_cons, List.flatMap_cons, List.map_append, ih (fun y hy => hL y (by simp [hy])), hG x (hL x (by simp))]
  refine this _ (fun x hx => ?_)
  rcases List.mem_append.1 hx with hx | hx
  · exact List.mem_of_mem_drop hx
  · exact List.mem_of_mem_take hx
/-- the end of the law -/
theorem last_one (hq : queue S ≠ []) {n : Nat} (hn : n ∈ freeL S) :
    let S3 := vst ((freeL S).length + 2 * (freeL S).length) S
    (getS S3 (n : Int)).1.2 = 0 ∧ (victimS (getS S3 (n : Int)).2).1.2 = true ∧ ((victimS (getS S3 (n : Int)).2).1.1 ≠ (n : Int) ∨ (freeL S).length = 1) := by
  intro S3
  have hl : (queue S).length = (freeL S).length := (freeL_len h).symm
  obtain ⟨hall, _, h3⟩ := vst_twice h hq hl
  have hok := vst_ok h ((freeL S).length + 2 * (freeL S).length)
  have hpm := vst_perm h hq ((freeL S).length + 2 * (freeL S).length)
  have hlen := vst_len h hq ((freeL S).length + 2 * (freeL S).length)
  have hmem : ((n : Int)) ∈ pagesQ S3 := hpm.1.mem_iff.2 ((freeL_mem h n).1 hn)
  obtain ⟨i, l, hil, e, h0⟩ := (pages_mem hok _).1 hmem
  have hpos := posF_of hok hil
  rw [e] at hpos
  have hgok : (getS S3 (n : Int)).2.Ok K := getS_ok hok _
  have hgq := get_queue hok (n : Int)
  have hne : queue (getS S3 (n : Int)).2 ≠ [] := by
    rw [hgq]
    intro e2
    exact hpm.2 (List.map_eq_nil_iff.1 e2)
  have hallS : ∀ x ∈ queue S3, x.2 = false := by
    show ∀ x ∈ queue (vst _ S), x.2 = false
    rw [h3]
    exact hall
  refine ⟨by rw [getS_hit hpos hil], vic_true hgok hne, ?_⟩
  by_cases h1 : (freeL S).length = 1
  · exact .inr h1
  · left
    obtain ⟨M, hM⟩ := vic_queue hgok hne
    have hpg : (queue (getS S3 (n : Int)).2).map (·.1) = (queue S3).map (·.1) := by
      rw [hgq, List.map_map]
      exact List.map_congr_left (fun y _ => by
        show (if y.1 = (n : Int) then (y.1, true) else y).1 = y.1
        split <;> rfl)
    refine vq_other hM (by rw [hpg]; exact pages_nodup hok) ?_ (fun x hx => ?_)
    · have hq0 : (freeL S).length ≠ 0 := fun e0 => by rw [← hl, List.length_eq_zero_iff] at e0; exact hq e0
      have : (queue (getS S3 (n : Int)).2).length = (queue S3).length := by rw [hgq, List.length_map]
      show 2 ≤ (queue (getS S3 (n : Int)).2).length
      rw [this]
      show 2 ≤ (queue (vst _ S)).length
      rw [hlen, hl]
      omega
    · rw [hgq] at hx
      obtain ⟨y, hy, rfl⟩ := List.mem_map.1 hx
      by_cases e1 : y.1 = (n : Int)
      · simp [e1]
      · simp [e1, hallS y hy]
end
end Go.Proofs.Ytjbjfpbhacpeiaa
