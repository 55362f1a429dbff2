/- The hand's ring as a queue of pages; asked over and over, all come, each once in as many. No program in sight. -/
import Derived.Test.YtjbjfpbhacpeiaaL1
namespace Go.Proofs.Ytjbjfpbhacpeiaa
open Go.RowKit
set_option linter.unusedSimpArgs false
set_option linter.unusedVariables false

/-- what may go of a place: its page, was it used? -/
def itemS (x : Slot) : List (Int × Bool) := match x with
  | some l => if l.pins = 0 then [(l.f.page, l.used)] else []
  | none => []
def restS (S : PS) : List Slot := S.s.drop (S.hand + 1) ++ S.s.take S.hand
def ring (S : PS) : List Slot := S.s.drop S.hand ++ S.s.take S.hand
def queue (S : PS) : List (Int × Bool) := (ring S).flatMap itemS
theorem ring_cons {S : PS} (h : S.hand < S.s.length) : ring S = S.s[S.hand] :: restS S := by
  unfold ring restS
  rw [List.drop_eq_getElem_cons h, List.cons_append]
theorem ring_next {S : PS} (h : S.hand < S.s.length) (x : Slot) : ring { s := S.s.set S.hand x, hand := (S.hand + 1) % S.s.length } = restS S ++ [x] := by
  unfold ring restS
  dsimp only
  by_cases hl : S.hand + 1 < S.s.length
  · rw [Nat.mod_eq_of_lt hl, List.drop_set_of_lt (by omega), List.append_assoc]
    congr 1
    rw [List.take_succ_eq_append_getElem (by rw [List.length_set]; exact h), List.getElem_set_self, List.take_set_of_le (Nat.le_refl _)]
  · have e : S.hand + 1 = S.s.length := by omega
    rw [e, Nat.mod_self, List.drop_length, List.take_zero, List.nil_append, List.drop_zero, List.append_nil]
    have h2 : S.s.set S.hand x = (S.s.set S.hand x).take (S.hand + 1) := by rw [List.take_of_length_le (by rw [List.length_set]; omega)]
    rw [h2, List.take_succ_eq_append_getElem (by rw [List.length_set]; exact h), List.getElem_set_self, List.take_set_of_le (Nat.le_refl _)]
theorem queue_cons {S : PS} (h : S.hand < S.s.length) : queue S = itemS S.s[S.hand] ++ (restS S).flatMap itemS := by
  unfold queue
  rw [ring_cons h, List.flatMap_cons]
theorem queue_next {S : PS} (h : S.hand < S.s.length) (x : Slot) : queue { s := S.s.set S.hand x, hand := (S.hand + 1) % S.s.length } = (restS S).flatMap itemS ++ itemS x := by
  unfold queue
  rw [ring_next h, List.flatMap_append, List.flatMap_cons, List.flatMap_nil, List.append_nil]
theorem queue_turn {S : PS} (h : S.hand < S.s.length) : queue { S with hand := (S.hand + 1) % S.s.length } = (restS S).flatMap itemS ++ itemS S.s[S.hand] := by
  have := queue_next h S.s[S.hand]
  rw [List.set_getElem_self] at this
  exact this
/-- the queue's own walk -/
def vq : Nat → List (Int × Bool) → Option (Int × List (Int × Bool))
  | 0, _ => none
  | _ + 1, [] => none
  | _ + 1, (p, false) :: r => some (p, r ++ [(p, false)])
  | k + 1, (p, true) :: r => vq k (r ++ [(p, false)])
theorem clock_queue : ∀ (N : Nat) (S : PS) (r : Int × PS), S.hand < S.s.length → (∀ (i : Nat) (l : Live), S.s[i]? = some (some l) → 0 ≤ l.pins) → clock N S = some r → ∃ M, vq M (queue S) = some (r.1, queue r.2)
  | 0, _, _, _, _, h => by cases h
  | N + 1, S, r, hh, hp, h => by
    have hs := List.getElem?_eq_getElem hh
    have hk : (S.hand + 1) % S.s.length < S.s.length := Nat.mod_lt _ (by omega)
    simp only [clock, hs, Option.getD_some] at h
    have hq := queue_cons hh
    cases hl : S.s[S.hand]'hh with
    | none =>
      rw [hl] at h hq
      obtain ⟨M, hM⟩ := clock_queue N { S with hand := (S.hand + 1) % S.s.length } r hk hp h
      rw [queue_turn hh, hl] at hM
      exact ⟨M, by rw [hq]; simpa [itemS] using hM⟩
    | some l =>
      rw [hl] at h hq hs
      dsimp only at h
      by_cases hpn : 0 < l.pins
      · rw [if_pos hpn] at h
        obtain ⟨M, hM⟩ := clock_queue N { S with hand := (S.hand + 1) % S.s.length } r hk hp h
        rw [queue_turn hh, hl] at hM
        have hne : ¬ l.pins = 0 := by omega
        exact ⟨M, by rw [hq]; simpa [itemS, hne] using hM⟩
      · rw [if_neg hpn] at h
        have h0 : l.pins = 0 := by have := hp _ _ hs; omega
        have hi : itemS (some l) = [(l.f.page, l.used)] := by simp [itemS, h0]
        rw [hi] at hq
        by_cases hu : l.used = true
        · rw [if_pos hu] at h
          have hp2 : ∀ (i : Nat) (l' : Live), (S.s.set S.hand (some { l with used := false }))[i]? = some (some l') → 0 ≤ l'.pins := fun i l' hi => by
            rw [List.getElem?_set] at hi
            split at hi
            · simp only [Option.some.injEq] at hi
              subst hi
              show 0 ≤ l.pins
              omega
            · exact hp i l' hi
          obtain ⟨M, hM⟩ := clock_queue N { s := S.s.set S.hand (some { l with used := false }), hand := (S.hand + 1) % S.s.length } r (by rw [List.length_set]; exact hk) hp2 h
          rw [queue_next hh] at hM
          have hi2 : itemS (some { l with used := false }) = [(l.f.page, false)] := by simp [itemS, h0]
          rw [hi2] at hM
          exact ⟨M + 1, by rw [hq, hu]; exact hM⟩
        · rw [if_neg hu] at h
          injection h with h
          subst h
          have huf : l.used = false := by simpa using hu
          refine ⟨1, ?_⟩
          rw [hq, huf, queue_turn hh, hl, hi, huf]
          rfl
/-! ### what the queue's walk does -/
theorem vq_perm : ∀ (M : Nat) (q : List (Int × Bool)) (p : Int) (q' : List (Int × Bool)), vq M q = some (p, q') → (q'.map (·.1)).Perm (q.map (·.1))
  | 0, _, _, _, h => by cases h
  | _ + 1, [], _, _, h => by cases h
  | _ + 1, (x, false) :: r, p, q', h => by
    simp only [vq, Option.some.injEq, Prod.mk.injEq] at h
    obtain ⟨rfl, rfl⟩ := h
    simp only [List.map_append, List.map_cons, List.map_nil]
    exact List.perm_append_comm
  | k + 1, (x, true) :: r, p, q', h => by
    have h2 := vq_perm k _ _ _ h
    simp only [List.map_append, List.map_cons, List.map_nil] at h2 ⊢
    exact h2.trans List.perm_append_comm
theorem vq_head {M : Nat} {x p : Int} {r q' : List (Int × Bool)} (h : vq M ((x, false) :: r) = some (p, q')) : p = x ∧ q' = r ++ [(x, false)] := by
  cases M with
  | zero => cases h
  | succ M =>
    simp only [vq, Option.some.injEq, Prod.mk.injEq] at h
    exact ⟨h.1.symm, h.2.symm⟩
/-- the last so many were not used -/
def Uns (j : Nat) (q : List (Int × Bool)) : Prop := ∃ A B, q = A ++ B ∧ (∀ x ∈ B, x.2 = false) ∧ A.length ≤ q.length - j
theorem uns_step {j : Nat} {p : Int} {u : Bool} {r : List (Int × Bool)} (h : Uns j ((p, u) :: r)) : Uns (j + 1) (r ++ [(p, false)]) := by
  obtain ⟨A, B, e, hB, hl⟩ := h
  have hlen := congrArg List.length e
  simp only [List.length_cons, List.length_append] at hlen hl
  cases A with
  | nil =>
    cases B with
    | nil => simp at e
    | cons y B =>
      simp only [List.nil_append, List.cons.injEq] at e
      obtain ⟨rfl, rfl⟩ := e
      refine ⟨[], r ++ [(p, false)], rfl, fun x hx => ?_, by simp⟩
      rcases List.mem_append.1 hx with hx | hx
      · exact hB x (by simp [hx])
      · simp only [List.mem_singleton] at hx; rw [hx]
  | cons y A =>
    simp only [List.cons_append, List.cons.injEq] at e
    obtain ⟨rfl, rfl⟩ := e
    refine ⟨A, B ++ [(p, false)], by simp, fun x hx => ?_, ?_⟩
    · rcases List.mem_append.1 hx with hx | hx
      · exact hB x hx
      · simp only [List.mem_singleton] at hx; rw [hx]
    · simp only [List.length_cons, List.length_append, List.length_nil] at hl ⊢
      omega
theorem uns_less {j : Nat} {q : List (Int × Bool)} (h : Uns (j + 1) q) : Uns j q := by
  obtain ⟨A, B, e, hB, hl⟩ := h
  exact ⟨A, B, e, hB, by omega⟩
theorem vq_uns : ∀ (M : Nat) (q : List (Int × Bool)) (p : Int) (q' : List (Int × Bool)) (j : Nat), vq M q = some (p, q') → Uns j q → Uns (j + 1) q'
  | 0, _, _, _, _, h, _ => by cases h
  | _ + 1, [], _, _, _, h, _ => by cases h
  | _ + 1, (x, false) :: r, p, q', j, h, hu => by
    simp only [vq, Option.some.injEq, Prod.mk.injEq] at h
    obtain ⟨rfl, rfl⟩ := h
    exact uns_step hu
  | k + 1, (x, true) :: r, p, q', j, h, hu => uns_less (vq_uns k _ p q' (j + 1) h (uns_step hu))
theorem uns_all {q : List (Int × Bool)} (h : Uns q.length q) : ∀ x ∈ q, x.2 = false := by
  obtain ⟨A, B, e, hB, hl⟩ := h
  rw [Nat.sub_self, Nat.le_zero, List.length_eq_zero_iff] at hl
  subst hl
  rw [List.nil_append] at e
  rw [e]
  exact hB
theorem uns_zero (q : List (Int × Bool)) : Uns 0 q := ⟨q, [], by simp, by simp, by simp⟩
/-- one was used just now: another comes -/
theorem vq_other {M : Nat} {q : List (Int × Bool)} {p p0 : Int} {q' : List (Int × Bool)} (h : vq M q = some (p, q')) (hn : (q.map (·.1)).Nodup) (hl : 2 ≤ q.length) (h0 : ∀ x ∈ q, (x.2 = true ↔ x.1 = p0)) : p ≠ p0 := by
  cases M with
  | zero => cases h
  | succ M =>
    match q, hl with
    | (x, u) :: (y, v) :: r, _ =>
      cases u with
      | false =>
        obtain ⟨rfl, _⟩ := vq_head h
        intro e
        have := (h0 (p, false) (by simp)).2 e
        cases this
      | true =>
        have hx : x = p0 := (h0 (x, true) (by simp)).1 rfl
        have hy : v = false := by
          cases v with
          | false => rfl
          | true =>
            have := (h0 (y, true) (by simp)).1 rfl
            simp only [List.map_cons, List.nodup_cons, List.mem_cons, not_or] at hn
            exact absurd (hx.trans this.symm) hn.1.1
        subst hy
        have h2 : vq M ((y, false) :: (r ++ [(x, false)])) = some (p, q') := h
        obtain ⟨rfl, _⟩ := vq_head h2
        intro e
        simp only [List.map_cons, List.nodup_cons, List.mem_cons, not_or] at hn
        exact hn.1.1 (hx.trans e.symm)
/-! ### asked over and over -/
/-- so many victims -/
def vst : Nat → PS → PS
  | 0, S => S
  | k + 1, S => (victimS (vst k S)).2
def vv (k : Nat) (S : PS) : Int := (victimS (vst k S)).1.1
theorem vst_add (a : Nat) (S : PS) : ∀ k, vst (a + k) S = vst k (vst a S)
  | 0 => rfl
  | k + 1 => by
    show (victimS (vst (a + k) S)).2 = (victimS (vst k (vst a S))).2
    rw [vst_add a S k]
theorem vv_add (a k : Nat) (S : PS) : vv (a + k) S = vv k (vst a S) := by unfold vv; rw [vst_add]
theorem canGo_item (x : Slot) : canGo x = true ↔ itemS x ≠ [] := by
  cases x with
  | none => simp [canGo, itemS]
  | some l => by_cases h : l.pins = 0 <;> simp [canGo, itemS, h]
theorem mem_ring {S : PS} {x : Slot} : x ∈ ring S ↔ x ∈ S.s := by
  have e : S.s = S.s.take S.hand ++ S.s.drop S.hand := (List.take_append_drop _ _).symm
  unfold ring
  rw [List.mem_append]
  conv => rhs; rw [e]
  rw [List.mem_append, Or.comm]
theorem any_queue {S : PS} : S.s.any canGo = true ↔ queue S ≠ [] := by
  rw [List.any_eq_true]
  constructor
  · rintro ⟨x, hx, hc⟩ e
    have h1 := (canGo_item x).1 hc
    cases hi : itemS x with
    | nil => exact h1 hi
    | cons y l =>
      have : y ∈ queue S := List.mem_flatMap.2 ⟨x, mem_ring.2 hx, by rw [hi]; simp⟩
      rw [e] at this
      cases this
  · intro h
    cases hq : queue S with
    | nil => exact absurd hq h
    | cons y l =>
      have : y ∈ queue S := by rw [hq]; simp
      obtain ⟨x, hx, hy⟩ := List.mem_flatMap.1 this
      exact ⟨x, mem_ring.1 hx, (canGo_item x).2 (fun e => by rw [e] at hy; cases hy)⟩
section
variable {K : Int} {S : PS} (h : S.Ok K)
include h
theorem vic_queue (hq : queue S ≠ []) : ∃ M, vq M (queue S) = some ((victimS S).1.1, queue (victimS S).2) := by
  obtain ⟨r, hr, e⟩ := victimS_yes h (any_queue.2 hq)
  rw [e]
  exact clock_queue 600 S r h.hand (fun i l hl => (h.live i l hl).2.2.1) hr
theorem vic_true (hq : queue S ≠ []) : (victimS S).1.2 = true := by
  obtain ⟨r, hr, e⟩ := victimS_yes h (any_queue.2 hq)
  rw [e]
theorem vst_ok : ∀ k, (vst k S).Ok K
  | 0 => h
  | k + 1 => (victimS_ok (vst_ok k)).1
theorem vst_perm (hq : queue S ≠ []) : ∀ k, ((queue (vst k S)).map (·.1)).Perm ((queue S).map (·.1)) ∧ queue (vst k S) ≠ []
  | 0 => ⟨List.Perm.refl _, hq⟩
  | k + 1 => by
    obtain ⟨h1, h2⟩ := vst_perm hq k
    obtain ⟨M, hM⟩ := vic_queue (vst_ok h k) h2
    have h3 := (vq_perm M _ _ _ hM).trans h1
    refine ⟨h3, fun e => ?_⟩
    have h4 := h3.length_eq
    change queue (victimS (vst k S)).2 = [] at e
    rw [e] at h4
    simp only [List.map_nil, List.length_nil, List.length_map] at h4
    exact hq (List.length_eq_zero_iff.1 h4.symm)
theorem vst_len (hq : queue S ≠ []) (k : Nat) : (queue (vst k S)).length = (queue S).length := by
  have := (vst_perm h hq k).1.length_eq
  simpa using this
theorem vst_uns (hq : queue S ≠ []) : ∀ k, Uns k (queue (vst k S))
  | 0 => uns_zero _
  | k + 1 => by
    obtain ⟨M, hM⟩ := vic_queue (vst_ok h k) (vst_perm h hq k).2
    exact vq_uns M _ _ _ k hM (vst_uns hq k)
/-- none is used any more: the ring turns -/
theorem vst_turn (hq : queue S ≠ []) (hu : ∀ x ∈ queue S, x.2 = false) : ∀ i, i ≤ (queue S).length → queue (vst i S) = (queue S).drop i ++ (queue S).take i ∧ (List.range i).map (fun k => vv k S) = ((queue S).take i).map (·.1)
  | 0, _ => ⟨by simp [vst], by simp⟩
  | i + 1, hi => by
    obtain ⟨h1, h2⟩ := vst_turn hq hu i (by omega)
    have hlt : i < (queue S).length := by omega
    obtain ⟨M, hM⟩ := vic_queue (vst_ok h i) (vst_perm h hq i).2
    rw [h1, List.drop_eq_getElem_cons hlt, List.cons_append] at hM
    have hf := hu _ (List.getElem_mem hlt)
    obtain ⟨x, u⟩ : ∃ x, x = (queue S)[i] := ⟨_, rfl⟩
    rw [show (queue S)[i] = ((queue S)[i].1, false) from Prod.ext rfl hf] at hM
    obtain ⟨e1, e2⟩ := vq_head hM
    refine ⟨?_, ?_⟩
    · show queue (victimS (vst i S)).2 = _
      rw [e2, List.append_assoc, List.take_succ_eq_append_getElem hlt]
      congr 2
      rw [show ((queue S)[i].1, false) = (queue S)[i] from Prod.ext rfl hf.symm]
    · rw [List.range_succ, List.map_append, h2, List.take_succ_eq_append_getElem hlt, List.map_append]
      congr 1
      show [(victimS (vst i S)).1.1] = _
      rw [e1]
      rfl
theorem vst_round (hq : queue S ≠ []) (hu : ∀ x ∈ queue S, x.2 = false) : queue (vst (queue S).length S) = queue S ∧ (List.range (queue S).length).map (fun k => vv k S) = (queue S).map (·.1) := by
  obtain ⟨h1, h2⟩ := vst_turn h hq hu _ (Nat.le_refl _)
  rw [List.drop_length, List.take_length, List.nil_append] at h1
  rw [List.take_length] at h2
  exact ⟨h1, h2⟩
end
/-- behind so many as there are: twice around -/
theorem vst_twice {K : Int} {S : PS} (h : S.Ok K) (hq : queue S ≠ []) {f : Nat} (hf : (queue S).length = f) :
    (∀ x ∈ queue (vst f S), x.2 = false) ∧ (List.range (2 * f)).map (fun k => vv (f + k) S) = (queue (vst f S)).map (·.1) ++ (queue (vst f S)).map (·.1) ∧ queue (vst (f + 2 * f) S) = queue (vst f S) := by
  have hl := vst_len h hq f
  rw [hf] at hl
  have hu := vst_uns h hq f
  rw [show f = (queue (vst f S)).length from hl.symm] at hu
  rw [show vst (queue (vst f S)).length S = vst f S by rw [hl]] at hu
  have hall := uns_all hu
  have hk := vst_ok h f
  have hne := (vst_perm h hq f).2
  obtain ⟨a1, a2⟩ := vst_round hk hne hall
  rw [hl] at a1 a2
  have hk2 := vst_ok hk f
  obtain ⟨b1, b2⟩ := vst_round hk2 (by rw [a1]; exact hne) (by rw [a1]; exact hall)
  rw [a1, hl] at b1 b2
  refine ⟨hall, ?_, ?_⟩
  · rw [show 2 * f = f + f by omega, List.range_add, List.map_append]
    congr 1
    · rw [← a2]
      exact List.map_congr_left (fun k _ => vv_add f k S)
    · rw [List.map_map, ← b2]
      exact List.map_congr_left (fun k _ => by
        show vv (f + (f + k)) S = _
        rw [vv_add, vv_add])
  · rw [show f + 2 * f = f + (f + f) by omega, vst_add f S (f + f), vst_add f (vst f S) f]
    exact b1
end Go.Proofs.Ytjbjfpbhacpeiaa
