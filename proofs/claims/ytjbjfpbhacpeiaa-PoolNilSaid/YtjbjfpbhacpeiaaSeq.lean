/- A region that draws its order: one walk, in one order, serves every order. What only reads is taken as early as it may come up, and must yield the same in every later world; what makes or writes memory comes up alone. No condition. -/
import Derived.Test.YtjbjfpbhacpeiaaLib
import Derived.OrdersHeld
namespace Go.Proofs.Ytjbjfpbhacpeiaa
open Go.RowKit

/-- later worlds: what is there, and not in T, is as it was -/
structure Ex (T : Nat → Prop) (w w' : World) : Prop where
  os : w'.os = w.os
  tape : w'.tape = w.tape
  output : w'.output = w.output
  size : w.heap.size ≤ w'.heap.size
  block : ∀ k, k < w.heap.size → ¬ T k → w'.heap[k]? = w.heap[k]?
theorem Ex.refl (T : Nat → Prop) (w : World) : Ex T w w := ⟨rfl, rfl, rfl, Nat.le_refl _, fun _ _ _ => rfl⟩
theorem Ex.trans {T : Nat → Prop} {a b c : World} (h : Ex T a b) (k : Ex T b c) : Ex T a c :=
  ⟨k.os.trans h.os, k.tape.trans h.tape, k.output.trans h.output, Nat.le_trans h.size k.size, fun i hi hT => (k.block i (Nat.lt_of_lt_of_le hi h.size) hT).trans (h.block i hi hT)⟩
theorem Ex.drew (T : Nat → Prop) (w : World) : Ex T w { w with drawn := w.drawn + 1 } := ⟨rfl, rfl, rfl, Nat.le_refl _, fun _ _ _ => rfl⟩

section
variable {P : Program} {ops : Array Oper} {Q : Exit → Act → World → Prop} {md : Region.Mode} {T : Nat → Prop} {Bk : List Nat}

/-- Whatever order is picked from here on; each step but those of Bk leads to a later world. -/
def wpAnyM (P : Program) (md : Region.Mode) (ops : Array Oper) (Q : Exit → Act → World → Prop) (T : Nat → Prop) (Bk : List Nat) : Nat → Array Bool → Act → World → Prop
  | 0, listed, a, w => Region.ready md ops listed = [] ∧ Q .normal a w
  | fuel + 1, listed, a, w =>
    (Region.ready md ops listed = [] → Q .normal a w) ∧
    ∀ i ∈ Region.ready md ops listed, wpOp P ops Q i (fun a' w' => (Ex T w w' ∨ i ∈ Bk) ∧ wpAnyM P md ops Q T Bk fuel (listed.setIfInBounds i true) a' w') a w

theorem wpAny_of_M : ∀ (fuel : Nat) (listed : Array Bool) (a : Act) (w : World), wpAnyM P md ops Q T Bk fuel listed a w → wpAny P md ops Q fuel listed a w
  | 0, _, _, _, h => h
  | fuel + 1, _, _, _, h => ⟨h.1, fun i hi => wpOp_mono (fun a' w' h' => wpAny_of_M fuel _ a' w' h'.2) (h.2 i hi)⟩

theorem yields_later {w w' : World} {o : Oper} {v : Value} {a : Act} (h : YieldsIf P ops (Ex T w) o v a) (hx : Ex T w w') : YieldsIf P ops (Ex T w') o v a :=
  h.imp (fun ⟨h1, h2⟩ => ⟨h1, fun u hu => h2 u (hx.trans hu)⟩) id

theorem wpAnyM_first {i : Nat} {oi : Oper} {v : Value} (hi : ops[i]? = some oi) (hsel : ∀ (j : Nat) (o : Oper) cs b, ops[j]? = some o → o.op ≠ .select cs b)
    (hQ : ∀ c a w, Q (.panic c) (a.put oi.dst v) w → Q (.panic c) a w) :
    ∀ (fuel : Nat) (listed : Array Bool) (a : Act) (w : World),
      (∀ j oj, ops[j]? = some oj → j ≠ i → listed.getD j true = false → (∀ e ∈ oj.after, Region.binds md e = true → e.on ≠ i) → oi.apart ops oj = true ∧ j ∉ Bk) →
      i ∈ Region.ready md ops listed → YieldsIf P ops (Ex T w) oi v a →
      wpAnyM P md ops Q T Bk fuel (listed.setIfInBounds i true) (a.put oi.dst v) w → wpAnyM P md ops Q T Bk (fuel + 1) listed a w := by
  intro fuel
  induction fuel with
  | zero =>
    intro listed a w _ hr hy H
    refine ⟨fun h => (by rw [h] at hr; cases hr), fun j hj => ?_⟩
    by_cases hji : j = i
    · subst hji
      exact hy.wpOp hi (Ex.refl T w) ⟨.inl (Ex.refl T w), H⟩
    · have := ready_mono hj hji
      rw [H.1] at this
      cases this
  | succ fuel ih =>
    intro listed a w hfree hr hy H
    refine ⟨fun h => (by rw [h] at hr; cases hr), fun j hj => ?_⟩
    by_cases hji : j = i
    · subst hji
      exact hy.wpOp hi (Ex.refl T w) ⟨.inl (Ex.refl T w), H⟩
    · have h1 := H.2 j (ready_mono hj hji)
      obtain ⟨hjun, oj, hoj, hall⟩ := mem_ready.1 hj
      have hnot : ∀ e ∈ oj.after, Region.binds md e = true → e.on ≠ i := fun e he hb heq => by
        have h1 := hall e he hb
        have h0 := (mem_ready.1 hr).1
        rw [heq] at h1
        rcases Nat.lt_or_ge i listed.size with h' | h'
        · simp [h'] at h0 h1
          rw [h0] at h1
          cases h1
        · simp [Array.getElem?_eq_none h'] at h1
      obtain ⟨hap, hBk⟩ := hfree j oj hoj hji hjun hnot
      have h2 := wpOp_putIf hoj hap (fun cs b => hsel i oi cs b hi) (fun cs b => hsel j oj cs b hoj) hQ hy h1
      have hfree' : ∀ k ok, ops[k]? = some ok → k ≠ i → (listed.setIfInBounds j true).getD k true = false →
          (∀ e ∈ ok.after, Region.binds md e = true → e.on ≠ i) → oi.apart ops ok = true ∧ k ∉ Bk := fun k ok hk hki hun hno => by
        refine hfree k ok hk hki ?_ hno
        by_cases hjk : j = k
        · subst hjk
          exact hjun
        · rw [getD_set_ne true hjk] at hun
          exact hun
      refine wpOp_mono (fun a' w' h3 => ?_) h2
      have hx : Ex T w w' := h3.2.1.resolve_right hBk
      refine ⟨.inl hx, ih (listed.setIfInBounds j true) a' w' hfree' (ready_mono hr (Ne.symm hji)) (yields_later h3.1 hx) ?_⟩
      rw [Array.setIfInBounds_comm _ _ hji]
      exact h3.2.2

/-! ### One order -/
/-- The walk along a list of numbers; 'true': it only reads. -/
def wpSeq (P : Program) (ops : Array Oper) (Q : Exit → Act → World → Prop) (T : Nat → Prop) (Bk : List Nat) : List (Nat × Bool) → Act → World → Prop
  | [], a, w => Q .normal a w
  | (i, true) :: rest, a, w => ∃ o v, ops[i]? = some o ∧ YieldsIf P ops (Ex T w) o v a ∧ wpSeq P ops Q T Bk rest (a.put o.dst v) w
  | (i, false) :: rest, a, w => wpOp P ops Q i (fun a' w' => (Ex T w w' ∨ i ∈ Bk) ∧ wpSeq P ops Q T Bk rest a' w') a w

/-- Who stands before the breakers. -/
def bkOk (md : Region.Mode) (ops : Array Oper) (listed : Array Bool) (Bk : List Nat) (i : Nat) : Bool :=
  Bk.all fun k => k == i || listed.getD k true || match ops[k]? with
    | some ok => ok.after.toList.any fun e => Region.binds md e && e.on == i
    | none => true

/-- The list is an order of the region; what only reads comes up as early as it stands there; what does not comes up alone. -/
def seqOk (md : Region.Mode) (ops : Array Oper) (Bk : List Nat) : List (Nat × Bool) → Array Bool → Bool
  | [], listed => Region.ready md ops listed == []
  | (i, true) :: rest, listed => Region.free md ops listed i && (Region.ready md ops listed).contains i && bkOk md ops listed Bk i && seqOk md ops Bk rest (listed.setIfInBounds i true)
  | (i, false) :: rest, listed => Region.ready md ops listed == [i] && seqOk md ops Bk rest (listed.setIfInBounds i true)

theorem seq_any (hsel : Region.noSelect ops = true) (hQ : ∀ c a d v w, Q (.panic c) (Act.put a d v) w → Q (.panic c) a w) :
    ∀ (L : List (Nat × Bool)) (listed : Array Bool) (a : Act) (w : World), seqOk md ops Bk L listed = true → wpSeq P ops Q T Bk L a w → wpAnyM P md ops Q T Bk L.length listed a w := by
  intro L
  induction L with
  | nil =>
    intro listed a w hk h
    simp only [seqOk, beq_iff_eq] at hk
    exact ⟨hk, h⟩
  | cons x L ih =>
    intro listed a w hk h
    obtain ⟨i, b⟩ := x
    cases b with
    | true =>
      simp only [seqOk, Bool.and_eq_true] at hk
      obtain ⟨⟨⟨h1, h2⟩, h3⟩, h4⟩ := hk
      obtain ⟨o, v, ho, hy, hr⟩ := h
      refine wpAnyM_first ho (Region.noSelect_spec hsel) (fun c a w => hQ c a o.dst v w) L.length listed a w (fun j oj hj hji hun hno => ⟨Region.free_spec ho h1 j oj hj hji hun hno, fun hb => ?_⟩) (by simpa using h2) hy (ih _ _ _ h4 hr)
      have := List.all_eq_true.1 h3 j hb
      rw [hj] at this
      simp only [Bool.or_eq_true, beq_iff_eq, hun, or_false, Bool.false_eq_true, List.any_eq_true, Bool.and_eq_true] at this
      rcases this with h | ⟨e, he, hb1, hb2⟩
      · exact hji h
      · exact hno e (Array.mem_toList_iff.1 he) hb1 hb2
    | false =>
      simp only [seqOk, Bool.and_eq_true, beq_iff_eq] at hk
      obtain ⟨h1, h2⟩ := hk
      refine ⟨fun h0 => (by rw [h1] at h0; cases h0), fun j hj => ?_⟩
      rw [h1, List.mem_singleton] at hj
      subst hj
      exact wpOp_mono (fun a' w' h3 => ⟨h3.1, ih _ _ _ h2 h3.2⟩) h

/-- The beginning. -/
theorem wp_region_seq {id : Nat} {a : Act} {w : World} (T : Nat → Prop) (Bk : List Nat) (L : List (Nat × Bool)) (hm : P.follows .mixedOrders = true) (hsel : Region.noSelect ops = true)
    (hQ : ∀ c a d v w, Q (.panic c) (Act.put a d v) w → Q (.panic c) a w) (hlen : L.length = ops.size) (hk : seqOk .any ops Bk L (Array.replicate ops.size false) = true)
    (h : wpSeq P ops Q T Bk L a w.drew) : (Code.region id ops true).wp P Q a w := by
  refine wp_region_any hm (wpAny_of_M (T := T) (Bk := Bk) _ _ _ _ ?_)
  rw [← hlen]
  refine seq_any hsel hQ L _ _ _ ?_ h
  rw [hlen]
  exact hk

/-- It only reads, and is carried out. -/
theorem seq_on {i : Nat} {o : Oper} {v : Value} {a : Act} {w : World} {rest : List (Nat × Bool)} (ho : ops[i]? = some o) (hw : Region.wanted o (yielded ops a.tmps) = true)
    (hv : ∀ w', Ex T w w' → (execOp a.eval o).run P w' = .ok (.value v) w') (h : wpSeq P ops Q T Bk rest (a.put o.dst v) w) : wpSeq P ops Q T Bk ((i, true) :: rest) a w :=
  ⟨o, v, ho, .inl ⟨hw, hv⟩, h⟩
/-- The same; its slot is named. -/
theorem seq_at {i : Nat} {o : Oper} {v : Value} {a : Act} {w : World} {rest : List (Nat × Bool)} (d : Option Nat) (ho : ops[i]? = some o) (hd : o.dst = d) (hw : Region.wanted o (yielded ops a.tmps) = true)
    (hv : ∀ w', Ex T w w' → (execOp a.eval o).run P w' = .ok (.value v) w') (h : wpSeq P ops Q T Bk rest (a.put d v) w) : wpSeq P ops Q T Bk ((i, true) :: rest) a w :=
  seq_on ho hw hv (by rw [hd]; exact h)
/-- Its guard says no. -/
theorem seq_off {i : Nat} {b : Bool} {o : Oper} {a : Act} {w : World} {rest : List (Nat × Bool)} (ho : ops[i]? = some o) (hw : Region.wanted o (yielded ops a.tmps) = false)
    (h : wpSeq P ops Q T Bk rest (a.put o.dst undef) w) : wpSeq P ops Q T Bk ((i, b) :: rest) a w := by
  cases b with
  | true => exact ⟨o, undef, ho, .inr ⟨hw, rfl⟩, h⟩
  | false =>
    unfold wpSeq wpOp
    simp only [ho, hw, Bool.false_eq_true, if_false]
    exact ⟨.inl (Ex.refl T w), h⟩
/-- It makes or writes memory. -/
theorem seq_eff {i : Nat} {o : Oper} {a : Act} {w : World} {rest : List (Nat × Bool)} (ho : ops[i]? = some o) (hw : Region.wanted o (yielded ops a.tmps) = true)
    (h : ∀ K : Act → World → Prop, Hid (∀ a' w', (Ex T w w' ∨ i ∈ Bk) → wpSeq P ops Q T Bk rest a' w' → K a' w') → o.wp P a w K Q) : wpSeq P ops Q T Bk ((i, false) :: rest) a w := by
  unfold wpSeq wpOp
  simp only [ho, hw, if_true]
  exact .inl (h _ (fun a' w' h1 h2 => ⟨h1, h2⟩))
theorem seq_nil {a : Act} {w : World} (h : Q .normal a w) : wpSeq P ops Q T Bk [] a w := h
end

/-! ### Facts of a world and of all later ones -/
def Up (T : Nat → Prop) (w : World) (F : World → Prop) : Prop := ∀ w', Ex T w w' → F w'
theorem Up.later {T : Nat → Prop} {w w' : World} {F : World → Prop} (h : Up T w F) (hx : Ex T w w') : Up T w' F := fun u hu => h u (hx.trans hu)
theorem Up.and {T : Nat → Prop} {w : World} {F G : World → Prop} (h : Up T w F) (k : Up T w G) : Up T w (fun u => F u ∧ G u) := fun u hu => ⟨h u hu, k u hu⟩
theorem Up.at {T : Nat → Prop} {w : World} {F : World → Prop} (h : Up T w F) : F w := h w (Ex.refl T w)
theorem Ex.below {T : Nat → Prop} {w w' : World} (hb : Below w.heap.size w w') : Ex T w w' := ⟨hb.os, hb.tape, hb.output, hb.size, fun k hk _ => hb.block k hk⟩
theorem Ex.grown {T : Nat → Prop} {w w' : World} {row : Option Nat} (hg : w.grownBy w' row) (hT : ∀ k, row = some k → T k) : Ex T w w' :=
  ⟨hg.os, hg.tape, hg.output, hg.size, fun k hk hn => hg.block k hk (fun e => hn (hT k e.symm))⟩
theorem Ex.drewN (T : Nat → Prop) (w : World) (n : Nat) : Ex T w (w.drewN n) := ⟨rfl, rfl, rfl, Nat.le_refl _, fun _ _ _ => rfl⟩
theorem Up.cell {T : Nat → Prop} {w : World} {a : Addr} {v : Value} (h : w.cell? a = some v) (hT : ¬ T a.block) : Up T w (fun u => u.cell? a = some v) := fun _ hu =>
  (World.cell?_of_block (w := w) (hu.block a.block (World.block_lt_of_cell? w a h) hT)).trans h
theorem Up.bytes {T : Nat → Prop} {w : World} {A : Option Addr} {cs : List Value} (h : At w A cs) (hT : ∀ ad, A = some ad → ¬ T ad.block) : Up T w (fun u => At u A cs) := fun w' hu j x hj => by
  obtain ⟨ad, e, hc⟩ := h j x hj
  exact ⟨ad, e, Up.cell hc (by rw [add_block]; exact hT ad e) w' hu⟩
theorem Up.map {T : Nat → Prop} {w : World} {F G : World → Prop} (h : Up T w F) (k : ∀ u, F u → G u) : Up T w G := fun _ hu => k _ (h _ hu)
end Go.Proofs.Ytjbjfpbhacpeiaa
