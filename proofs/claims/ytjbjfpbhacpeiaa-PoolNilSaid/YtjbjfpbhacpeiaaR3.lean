/- The pool's Victim. Printed by gen_r3.py from r3.tpl. -/
import Derived.Test.YtjbjfpbhacpeiaaR2
namespace Go.Proofs.Ytjbjfpbhacpeiaa
open Go.RowKit Go.Shelf
set_option linter.unusedSimpArgs false
set_option linter.unusedVariables false
set_option maxRecDepth 100000
attribute [local go_sem] Oper.semAt_some

theorem below_put {B : Nat} {a w : World} (h : Below B a w) {D : Nat} (o : Obj) (hD : B ≤ D) : Below B a (w.putObj D o) :=
  ⟨h.os, h.tape, h.output, by simpa using h.size, fun k hk => (World.putObj_heap_other (by omega)).trans (h.block k hk)⟩
theorem leave1 {F : Fence} {n : Nat} {P : Program} {fn : Func} (hr : fn.results = #[.tmp 2, .tmp 3]) {tmps : Array Value} {R : Ending → World → Prop} {p q : Value} {D : Nat} {w : World} (h2 : tmps.getD 2 undef = p) (h3 : tmps.getD 3 undef = q)
    (hD : w.heap[D]? = some (.deferred (some []))) (h : R (.returned (.tuple #[p, q])) (w.putObj D (.deferred none))) : LeavesInM F n P fn tmps R [{ target := .collected D, args := #[] }] .returning w := by
  refine ⟨by simp, .inl ⟨_, _, rfl, run_takeDeferred hD, ?_⟩⟩
  refine ⟨.tuple #[p, q], ?_, h⟩
  have h2' : tmps[2]?.getD undef = p := by simpa using h2
  have h3' : tmps[3]?.getD undef = q := by simpa using h3
  simp [results, hr, go_sem, h2', h3']
/-- the blocks that the range may turn -/
def VT (s : Nat) (k : Nat) : Prop := k = s + 1 ∨ s + 3 ≤ k
def w3 (w : World) (A : Option Addr) : World := ((w.alloc (.cells #[.pointer A] 23)).alloc (.cells #[.bool false] 4)).alloc (.cells #[.pointer A] 23)
def VI (w : World) (A : Option Addr) (pv : OFr → Int) (pre : List OFr) (W : World) : Prop := Ex (VT w.heap.size) (w3 w A) W ∧ Boxed W (w.heap.size + 1) 4 (.bool (pre.any fun f => pv f == 0))
section
variable {w W W' : World} {A : Option Addr} {pv : OFr → Int}
theorem w3_size : (w3 w A).heap.size = w.heap.size + 3 := by simp [w3]
theorem w3_below : Below w.heap.size w (w3 w A) := (((Below.refl _ w).alloc (Nat.le_refl _) _).alloc (by simp) _).alloc (by simp; omega) _
theorem vi_below (h : Ex (VT w.heap.size) (w3 w A) W) : Below w.heap.size w W := w3_below.trans (h.toBelow (by rw [w3_size]; omega) (fun k hk => by rcases hk with rfl | hk <;> omega))
theorem w3_b1 : (w3 w A).cell? ⟨w.heap.size, 0, none⟩ = some (.pointer A) := by
  have h := (Boxed.new w 23 (.pointer A)).alloc (.cells #[.bool false] 4)
  exact (h.alloc (.cells #[.pointer A] 23)).cell
theorem w3_b4 : Boxed (w3 w A) (w.heap.size + 1) 4 (.bool false) := by
  have h := Boxed.new (w.alloc (.cells #[.pointer A] 23)) 4 (.bool false)
  rw [World.size_alloc] at h
  exact h.alloc (.cells #[.pointer A] 23)
theorem w3_g : (w3 w A).cell? ⟨w.heap.size + 2, 0, none⟩ = some (.pointer A) := by
  have h := Boxed.new ((w.alloc (.cells #[.pointer A] 23)).alloc (.cells #[.bool false] 4)) 23 (.pointer A)
  rw [World.size_alloc, World.size_alloc] at h
  exact h.cell
theorem vt_own {β : Type} : OwnFrom (w.heap.size + 3) (fun (_ : β) W => Ex (VT w.heap.size) (w3 w A) W) := fun _ _ _ row hs hg hr =>
  hs.trans (Ex.grown hg (fun k hk => .inr (hr k hk).1))
theorem vi_own : OwnFrom (w.heap.size + 3) (VI w A pv) := OwnFrom.and vt_own (Own.from (boxed_own _ _ (fun pre : List OFr => Value.bool (pre.any fun f => pv f == 0))) _)
theorem row_own {β : Type} (B g : Nat) (cs : Array Value) (t : TypeId) : OwnFrom B (fun (_ : β) W => W.heap[g]? = some (.cells cs t (0, 0))) := fun _ X Y row hs hg hr =>
  (hg.block g (Array.getElem?_eq_some_iff.1 hs).1 (fun e => by obtain ⟨_, o, ho, hc⟩ := hr g e.symm; rw [hs] at ho; cases ho; cases hc)).trans hs
end
/-- the pool's places as Look and Pins tell them -/
structure Tells (w : World) (A : Option Addr) (v : Nat → OFr × Bool) (pv : OFr → Int) : Prop where
  look : ∀ W, Below w.heap.size w W → ∀ k : Nat, k < 16 → Calls Try.prog 15 #[.pointer A, .int .i64 (k : Int)] W (fun e w' => e = .returned (.tuple #[.agg (fA (v k).1.1), .bool (v k).2]) ∧ Below W.heap.size W w')
  pins : ∀ W, Below w.heap.size w W → ∀ f : OFr, Calls Try.prog 16 #[.pointer A, .int .i64 f.1.page] W (fun e w' => e = .returned (.int .i64 (pv f)) ∧ W = w')
theorem tells_eye {w : World} {A : Option Addr} {v : Nat → OFr × Bool} {pv : OFr → Int} (h : Tells w A v pv) : Eye (Ex (VT w.heap.size) (w3 w A)) (w.heap.size + 2) A v where
  cell W hW := Up.cell w3_g (fun e => by rcases e with e | e <;> simp at e) W hW
  look W hW := h.look W (vi_below hW)
  keep W W' hW hb := hW.trans (Ex.below hb)
set_option maxHeartbeats 8000000 in
theorem victim_gen (w : World) (A : Option Addr) (v : Nat → OFr × Bool) (pv : OFr → Int) (hT : Tells w A v pv) (R : Ending → World → Prop)
    (h0 : (seenV v 16).any (fun f => pv f == 0) = false → ∀ w', Below w.heap.size w w' → R (.returned (.tuple #[.int .i64 0, .bool false])) w')
    (h1 : (seenV v 16).any (fun f => pv f == 0) = true → ∃ b m S N r, ∃ K : Int, A = some ⟨b, 0, none⟩ ∧ PoolAt w b m S ∧ S.Ok K ∧ clock N S = some r ∧ ∀ w', PoolAt w' b m r.2 → Ex (fun k => k = b) w w' → R (.returned (.tuple #[.int .i64 r.1, .bool true])) w') :
    Calls Try.prog 17 #[.pointer A] w R := by
  refine (callsIn_wide (n := 5)).1 ?_
  refine callsIn_of_wp_marks Try.func17 rfl trivial ?_ rfl
  simp only [Try.ntmps17, List.size_toArray, List.length_cons, List.length_nil, Nat.reduceAdd, Nat.reduceSub, Array.replicate_succ, Array.replicate_zero, List.push_toArray, List.append_toArray, List.nil_append, List.cons_append]
  have hn1 : 1 ≤ 5 := by omega
  have H0 := Lib.hid h0
  have H1 := Lib.hid h1
  clear h0 h1
  obtain ⟨Q, hQ⟩ : ∃ Q, Q = bodyPostM Fence.wide 5 Try.prog Try.f17 R := ⟨_, rfl⟩
  rw [← hQ]
  have HQ := Lib.hid hQ
  clear hQ
  gi_wp2_with fail
  refine wpIn_wide.2 (wp_scope_straight ?_)
  refine (wpIn_wide (n := 5)).1 ?_
  gi_wp2_with (refine ⟨trivial, ?_⟩; gi_at_call 40; refine (callsIn_wide.2 (all_any _ A)).mono ?_; rintro e w1 ⟨rfl, rfl⟩)
  have hE := tells_eye hT
  have HT := Lib.hid hT
  rw [show ((w.alloc (.cells #[.pointer A] 23)).alloc (.cells #[.bool false] 4)).alloc (.cells #[.pointer A] 23) = w3 w A from rfl]
  clear hT
  have hsz := w3_size (w := w) (A := A)
  refine wpIn_rangeFunc_ownH (α := OFr) (encs := encF) (Kp := Ex (VT w.heap.size)) (S := fun xs => xs = seenV v 16) (Sp := fun pre => ∃ k, k ≤ 16 ∧ pre = seenV v k) (N := 16) rfl (by omega) (gf := 47) (lb := #[.pointer (some ⟨w.heap.size + 2, 0, none⟩)]) rfl trivial (enters_of Try.func47 (by kernel_rfl) rfl)
    (all_stops 4 (by omega) (w.heap.size + 2) 16 A v _ hE (seenV_le v 16) (Ex (VT w.heap.size)) (fun _ _ h k => h.trans k) (w3 w A) (Ex.refl _ _)) (fun h k => h.trans k)
    (fun W l o o' hl _ _ _ => ⟨rfl, rfl, rfl, by simp, fun k _ hk => World.putObj_heap_other (fun e => hk (by subst e; rw [hsz] at hl; exact .inr hl))⟩) (Below.refl _ _) (fun _ => rfl)
    (VI w A pv) (fun _ _ _ => False) (by rw [hsz]; exact vi_own) (fun _ _ _ _ _ h => h.elim) ⟨Ex.refl _ _, w3_b4⟩
    (fun x a' W' => ∃ g5, a' = { tmps := (.pointer A :: .pointer (some ⟨w.heap.size, 0, none⟩) :: .int .i64 0 :: .bool false :: .pointer (some ⟨w.heap.size + 1, 0, none⟩) :: .pointer (some ⟨g5, 0, none⟩) :: undef :: .pointer A :: .func (.func 47) #[] #[.pointer (some ⟨w.heap.size + 2, 0, none⟩)] :: .agg (fA x.1) :: undef :: undef :: undef :: undef :: undef :: undef :: undef :: undef :: undef :: undef :: undef :: undef :: undef :: undef :: undef :: undef :: undef :: undef :: undef :: undef :: undef :: undef :: undef :: undef :: undef :: undef :: undef :: undef :: undef :: undef :: undef :: undef :: undef :: undef :: undef :: undef :: undef :: undef :: undef :: undef :: undef :: undef :: undef :: undef :: undef :: undef :: undef :: undef :: undef :: undef :: undef :: undef :: undef :: undef :: undef :: undef :: undef :: []).toArray, defers := [] } ∧ W'.heap[g5]? = some (.cells (fA x.1) 39 (0, 0))) (fun x a' _ _ _ row hs hg hr => by
      obtain ⟨g5, e, h5⟩ := hs
      exact ⟨g5, e, row_own (β := Unit) _ g5 _ _ () _ _ row h5 hg hr⟩) ?assign ?body ?done ?stop
  case stop => exact fun _ _ _ _ _ _ h => h.elim
  case assign =>
    intro l pre x W K hI hK
    have HK := Lib.hid hK
    have hz := zfr
    clear hK
    gi_wp2_with (refine listIn_store_row rfl (fun _ => trivial) 39 (.tmp 5) (.tmp 9) rfl _ (fA x.1) rfl rfl 39 _ (heap_alloc_new _ (.cells (fA fr0) 39)) (infoFrA x.2) (fA_size fr0_ok x.2) (fv_all _) ?_; rw [World.setRow_alloc_new])
    simp only [Act.put]
    exact HK.out _ _ (KeepsFrom.of_grownBy (World.grownBy_alloc W _ none) (by simp)) (Ex.alloc _ W _) ⟨hI.1.trans (Ex.alloc _ W _), hI.2.alloc _⟩ ⟨W.heap.size, rfl, heap_alloc_new W _⟩
  case body =>
    rintro l pre x a' W hl hrec ⟨hx, hb⟩ ⟨g5, rfl, h5⟩ hlen
    have c1 : W.cell? ⟨w.heap.size, 0, none⟩ = some (.pointer A) := Up.cell w3_b1 (fun e => by rcases e with e | e <;> dsimp only at e <;> omega) W hx
    have c4 := hb.cell
    have f4 := hb.frozen
    have c5 : W.cell? ⟨g5, 0, none⟩ = some (.int .i64 x.1.page) := by simp [World.cell?, h5, fA, fcells]
    have HP := Lib.hid (HT.out.pins W (vi_below hx) x)
    have HE : Hid (∀ (a : Act) (t : Bool), t = (pre.any (fun f => pv f == 0) || pv x == 0) → ownPostG (w3 w A).heap.size (Ex (VT w.heap.size)) (VI w A pv) (fun _ _ _ => False) (pre ++ [x]) W .normal a (W.setCell ⟨w.heap.size + 1, 0, none⟩ (.bool t))) := Lib.hid (fun a t ht => by
      refine ⟨KeepsFrom.of_grownBy (grownBy_setCell' W _ _) (fun j e => by cases e; rw [hsz]; omega), setCell_ex (T := VT w.heap.size) _ _ _ (.inl rfl), hx.trans (setCell_ex (T := VT w.heap.size) _ _ _ (.inl rfl)), ?_⟩
      have h2 := hb.set (.bool t)
      rw [ht] at h2 ⊢
      simpa using h2)
    clear hx hb h5 hrec hl
    cases hp : pre.any (fun f => pv f == 0) with
    | true =>
      rw [hp] at c4 HE
      gi_wp2_with fail
      refine ⟨trivial, ?_⟩
      gi_wp2_with fail
      exact HE.out _ _ rfl
    | false =>
      rw [hp] at c4 HE
      gi_wp2_with (refine ⟨trivial, ?_⟩; gi_at_call 16; refine (callsIn_wide.2 HP.out).mono ?_; rintro e w1 ⟨rfl, rfl⟩)
      exact HE.out _ _ (by simp)
  case done =>
    rintro D xs W hD rfl ⟨hx, hb⟩ hdef
    rename_i Kt hKt
    refine hKt _ _ (wpIn_wide.2 ?_)
    rw [hsz] at hD
    have hbl := vi_below hx
    cases hp : (seenV v 16).any (fun f => pv f == 0) with
    | false =>
      rw [hp] at hb
      refine wp_mono (victim_none W w.heap.size (w.heap.size + 1) hb.cell _ _ _ _ _ _ _ _ _ _ _ _ _ _ _ _ _ _ _ _ _ _ _ _ _ _ _ _ _ _ _ _ _ _ _ _ _ _ _ _ _ _ _ _ _ _ _ _ _ _ _ _ _ _ _ _ _ _ _ _ _ _ _ _ _ [{ target := .collected D, args := #[] }]) ?_
      rintro e a' W' ⟨rfl, t2, t3, hds, rfl⟩
      show Q .ret a' W
      rw [HQ.out]
      show LeavesInM Fence.wide 5 Try.prog _ a'.tmps R a'.defers .returning W
      rw [hds]
      exact leave1 rfl t2 t3 hdef (H0.out hp _ (hbl.trans (below_put (Below.refl _ _) _ (by omega))))
    | true =>
      rw [hp] at hb
      obtain ⟨b, m, S, N, r, K, rfl, hPo, hS, hr, hR⟩ := H1.out hp
      have hPW := hPo.later hbl
      have c1 : W.cell? ⟨w.heap.size, 0, none⟩ = some (.pointer (some ⟨b, 0, none⟩)) := Up.cell w3_b1 (fun e => by rcases e with e | e <;> dsimp only at e <;> omega) W hx
      have hblt := hPo.cells.lt
      refine wp_mono (victim_some W w.heap.size (w.heap.size + 1) b m hPW hS hb.cell c1 (by omega) N r hr _ _ _ _ _ _ _ _ _ _ _ _ _ _ _ _ _ _ _ _ _ _ _ _ _ _ _ _ _ _ _ _ _ _ _ _ _ _ _ _ _ _ _ _ _ _ _ _ _ _ _ _ _ _ _ _ _ _ _ _ _ _ _ _ _ [{ target := .collected D, args := #[] }]) ?_
      rintro e a' W' ⟨rfl, t2, t3, hds, ⟨hg, hge⟩⟩
      show Q .ret a' W'
      rw [HQ.out]
      show LeavesInM Fence.wide 5 Try.prog _ a'.tmps R a'.defers .returning W'
      rw [hds]
      have hdef' : W'.heap[D]? = some (.deferred (some [])) := (hge.block D (Array.getElem?_eq_some_iff.1 hdef).1 (fun e => by omega)).trans hdef
      have hput : Ex (fun k => k = D) W' (W'.putObj D (.deferred none)) := ⟨rfl, rfl, rfl, by simp, fun k _ hk => World.putObj_heap_other (fun e => hk e)⟩
      have hall : Ex (fun k => k = b) w (W'.putObj D (.deferred none)) := by
        have h12 := (Ex.below hbl (T := fun k => k = b)).trans hge
        exact ⟨h12.os, h12.tape, h12.output, Nat.le_trans h12.size hput.size, fun k hk hn => (hput.block k (Nat.lt_of_lt_of_le hk h12.size) (fun e => by omega)).trans (h12.block k hk hn)⟩
      exact leave1 rfl t2 t3 hdef' (hR _ (hg.kept hput (fun e => by omega) (fun e => by have := hPo.mlt; omega)) hall)
end Go.Proofs.Ytjbjfpbhacpeiaa
