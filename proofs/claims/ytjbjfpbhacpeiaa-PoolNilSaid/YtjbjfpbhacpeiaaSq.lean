/- The order of a large region that draws, checked on a table of what each operation writes, looks at and waits for; what is listed is a number's bits. -/
import Derived.Test.YtjbjfpbhacpeiaaSeq
namespace Go.Proofs.Ytjbjfpbhacpeiaa
open Go.RowKit
set_option linter.unusedSimpArgs false
set_option linter.unusedVariables false

/-- a row of the table -/
structure Tb where
  dst : Option Nat
  looks : List Nat
  after : List Nat
def tbOf (md : Region.Mode) (ops : Array Oper) (o : Oper) : Tb := ⟨o.dst, o.looksAt ops, (o.after.toList.filter (Region.binds md)).map (·.on)⟩
def apartT (x y : Tb) : Bool :=
  (match x.dst with
   | some d => !y.looks.contains d && y.dst != some d
   | none => true) &&
  (match y.dst with
   | some d => !x.looks.contains d
   | none => true)
/-- may it come up? -/
def upT (m : Nat) (x : Tb) : Bool := x.after.all fun j => m.testBit j
/-- who comes up, from number k on -/
def readyT (m : Nat) : Nat → List Tb → List Nat
  | _, [] => []
  | k, x :: tb => if !m.testBit k && upT m x then k :: readyT m (k + 1) tb else readyT m (k + 1) tb
def freeT (m : Nat) (x : Tb) (i : Nat) : Nat → List Tb → Bool
  | _, [] => true
  | k, y :: tb => (k == i || m.testBit k || y.after.contains i || apartT x y) && freeT m x i (k + 1) tb
def seqT (tb : List Tb) : List (Nat × Bool) → Nat → Bool
  | [], m => readyT m 0 tb == []
  | (i, true) :: rest, m => (match tb[i]? with
      | some x => freeT m x i 0 tb
      | none => false) && (readyT m 0 tb).contains i && seqT tb rest (m ||| 1 <<< i)
  | (i, false) :: rest, m => readyT m 0 tb == [i] && seqT tb rest (m ||| 1 <<< i)
/-- the bits are what is listed -/
structure Bits (n : Nat) (l : Array Bool) (m : Nat) : Prop where
  size : l.size = n
  lo : ∀ j, j < n → l[j]? = some (m.testBit j)
  hi : ∀ j, n ≤ j → m.testBit j = false
theorem bit_or (m i j : Nat) : (m ||| 1 <<< i).testBit j = (m.testBit j || decide (i = j)) := by
  rw [Nat.testBit_or, Nat.one_shiftLeft, Nat.testBit_two_pow]
theorem Bits.set {n : Nat} {l : Array Bool} {m : Nat} (h : Bits n l m) (i : Nat) (hin : i < n) : Bits n (l.setIfInBounds i true) (m ||| 1 <<< i) := by
  refine ⟨by simp [h.size], fun j hj => ?_, fun j hj => ?_⟩
  · rw [Array.getElem?_setIfInBounds, bit_or]
    by_cases e : i = j
    · subst e
      simp [h.size, hj]
    · rw [if_neg e, h.lo j hj]
      simp [e]
  · rw [bit_or, h.hi j hj]
    simp
    omega
theorem Bits.none (n : Nat) : Bits n (Array.replicate n false) 0 := ⟨by simp, fun j hj => by simp [hj], fun j _ => by simp⟩
section
variable {n : Nat} {l : Array Bool} {m : Nat} (h : Bits n l m)
include h
theorem Bits.getF (j : Nat) : l.getD j false = m.testBit j := by
  by_cases hj : j < n
  · have := h.lo j hj
    simp [Array.getD, h.size, hj, Array.getElem?_eq_some_iff] at this ⊢
    exact this
  · rw [h.hi j (by omega)]
    simp [Array.getD, h.size, hj]
theorem Bits.getT (j : Nat) (hj : j < n) : l.getD j true = m.testBit j := by
  have := h.lo j hj
  simp [Array.getD, h.size, hj, Array.getElem?_eq_some_iff] at this ⊢
  exact this
end
section
variable {md : Region.Mode} {ops : Array Oper} {l : Array Bool} {m : Nat}
theorem upT_eq (h : Bits ops.size l m) (o : Oper) : upT m (tbOf md ops o) = o.after.all fun e => !Region.binds md e || l.getD e.on false := by
  rw [Bool.eq_iff_iff]
  simp only [upT, tbOf, List.all_eq_true, List.mem_map, List.mem_filter, Array.all_eq_true_iff_forall_mem, forall_exists_index, and_imp, h.getF]
  constructor
  · intro H e he
    cases hb : Region.binds md e with
    | false => simp
    | true => simpa using H _ e (Array.mem_toList_iff.2 he) hb rfl
  · rintro H j e he hb rfl
    have := H e (Array.mem_toList_iff.1 he)
    rw [hb] at this
    simpa using this
theorem readyT_eq (h : Bits ops.size l m) : ∀ (os : List Oper) (k : Nat), (∀ j, j < os.length → ops[k + j]? = os[j]?) → k + os.length ≤ ops.size →
    readyT m k (os.map (tbOf md ops)) = (List.range' k os.length).filter fun i => !l.getD i true && ((ops[i]?).map (·.after.all fun e => !Region.binds md e || l.getD e.on false)).getD false
  | [], k, _, _ => by simp [readyT]
  | o :: os, k, hj, hk => by
    have h0 := hj 0 (by simp)
    simp only [Nat.add_zero, List.getElem?_cons_zero] at h0
    have ih := readyT_eq h os (k + 1) (fun j hjl => by
      have := hj (j + 1) (by simpa using hjl)
      rw [show k + 1 + j = k + (j + 1) by omega, this]
      simp) (by simp only [List.length_cons] at hk; omega)
    simp only [List.map_cons, readyT, List.length_cons, List.range'_succ, List.filter_cons]
    rw [ih, h.getT k (by simp only [List.length_cons] at hk; omega), h0, upT_eq h]
    rfl
theorem ready_tb (h : Bits ops.size l m) : readyT m 0 (ops.toList.map (tbOf md ops)) = Region.ready md ops l := by
  rw [readyT_eq h ops.toList 0 (fun j hj => by simp) (by simp)]
  unfold Region.ready
  rw [List.range_eq_range']
  simp
theorem freeT_at {x : Tb} {i : Nat} : ∀ {tb : List Tb} {k : Nat}, freeT m x i k tb = true → ∀ (j : Nat) (y : Tb), tb[j]? = some y → (k + j == i || m.testBit (k + j) || y.after.contains i || apartT x y) = true
  | [], k, _ => fun j y hy => by simp at hy
  | z :: tb, k, h => fun j y hy => by
    rw [freeT, Bool.and_eq_true] at h
    cases j with
    | zero =>
      simp only [List.getElem?_cons_zero, Option.some.injEq] at hy
      subst hy
      exact h.1
    | succ j =>
      have := freeT_at h.2 j y (by simpa using hy)
      rw [show k + (j + 1) = k + 1 + j by omega]
      exact this
theorem free_tb (hb : Bits ops.size l m) {i : Nat} {x : Tb} (hx : (ops.toList.map (tbOf md ops))[i]? = some x) (h : freeT m x i 0 (ops.toList.map (tbOf md ops)) = true) : Region.free md ops l i = true := by
  rw [List.getElem?_map] at hx
  cases hi : ops.toList[i]? with
  | none => rw [hi] at hx; cases hx
  | some oi =>
    rw [hi] at hx
    injection hx with hx
    rw [Array.getElem?_toList] at hi
    unfold Region.free
    rw [hi]
    simp only [List.all_eq_true, List.mem_range]
    intro j hj
    obtain ⟨oj, hoj⟩ : ∃ oj, ops[j]? = some oj := ⟨ops[j], Array.getElem?_eq_getElem hj⟩
    rw [hoj, hb.getT j hj]
    have ht := freeT_at h j (tbOf md ops oj) (by rw [List.getElem?_map, Array.getElem?_toList, hoj]; rfl)
    rw [Nat.zero_add, Bool.or_eq_true, Bool.or_eq_true, Bool.or_eq_true] at ht
    rcases ht with ((ht | ht) | ht) | ht
    · simp [ht]
    · simp [ht]
    · have : oj.after.any (fun e => Region.binds md e && e.on == i) = true := by
        simp only [tbOf, List.contains_eq_mem, decide_eq_true_eq, List.mem_map, List.mem_filter] at ht
        obtain ⟨e, ⟨he, hbi⟩, heq⟩ := ht
        rw [Array.any_eq_true']
        exact ⟨e, Array.mem_toList_iff.1 he, by simp [hbi, heq]⟩
      simp [this]
    · have : oi.apart ops oj = true := by rw [← hx] at ht; exact ht
      simp [this]
theorem seq_tb : ∀ (L : List (Nat × Bool)) {l : Array Bool} {m : Nat}, Bits ops.size l m → seqT (ops.toList.map (tbOf md ops)) L m = true → seqOk md ops [] L l = true
  | [], l, m, hb, h => by
    rw [seqT, ready_tb hb] at h
    exact h
  | (i, true) :: rest, l, m, hb, h => by
    simp only [seqT, Bool.and_eq_true] at h
    obtain ⟨⟨h1, h2⟩, h3⟩ := h
    rw [ready_tb hb] at h2
    have hin : i < ops.size := by
      have hm : i ∈ Region.ready md ops l := by simpa using h2
      unfold Region.ready at hm
      exact List.mem_range.1 (List.mem_filter.1 hm).1
    have hf : Region.free md ops l i = true := by
      cases hx : (ops.toList.map (tbOf md ops))[i]? with
      | none => rw [hx] at h1; cases h1
      | some x => rw [hx] at h1; exact free_tb hb hx h1
    unfold seqOk
    rw [hf, h2, seq_tb rest (hb.set i hin) h3]
    rfl
  | (i, false) :: rest, l, m, hb, h => by
    simp only [seqT, Bool.and_eq_true] at h
    obtain ⟨h2, h3⟩ := h
    rw [ready_tb hb] at h2
    have hin : i < ops.size := by
      have hm : i ∈ Region.ready md ops l := by rw [beq_iff_eq.1 h2]; simp
      unfold Region.ready at hm
      exact List.mem_range.1 (List.mem_filter.1 hm).1
    unfold seqOk
    rw [h2, seq_tb rest (hb.set i hin) h3]
    rfl
/-- the table stands for the region -/
theorem seqOk_tb {L : List (Nat × Bool)} (tb : List Tb) (htb : ops.toList.map (tbOf md ops) = tb) (h : seqT tb L 0 = true) : seqOk md ops [] L (Array.replicate ops.size false) = true :=
  seq_tb L (Bits.none _) (by rw [htb]; exact h)
end
end Go.Proofs.Ytjbjfpbhacpeiaa
