/- Contracts of the pool's Victim; of Look, Pins and Victim where there is no pool. -/
import Derived.Test.YtjbjfpbhacpeiaaR3
import Derived.Test.YtjbjfpbhacpeiaaR4
namespace Go.Proofs.Ytjbjfpbhacpeiaa
open Go.RowKit Go.Shelf
set_option linter.unusedSimpArgs false
set_option linter.unusedVariables false
set_option maxRecDepth 100000

theorem NoPool.later {w w' : World} {A : Option Addr} (h : NoPool w A) (hb : Below w.heap.size w w') : NoPool w' A := by
  rcases h with rfl | ⟨b, rfl, hc⟩
  · exact .inl rfl
  · exact .inr ⟨b, rfl, (hb.cell (p := ⟨b, 1680, none⟩) (World.block_lt_of_cell? w _ hc)).trans hc⟩
set_option maxHeartbeats 4000000 in
theorem look_no (w : World) (A : Option Addr) (h : NoPool w A) (p : Int) :
    Calls Try.prog 15 #[.pointer A, .int .i64 p] w (fun e w' => e = .returned (.tuple #[.agg (fA fr0), .bool false]) ∧ Below w.heap.size w w') := by
  have hz := zfr
  have HX := Lib.hid (heap_alloc_new w (.cells (fA fr0) 39))
  have H := Lib.hid (at_no _ A (h.later ((Below.refl _ w).alloc (Nat.le_refl _) (.cells (fA fr0) 39))) p)
  clear h
  go_enter Try.func15, Try.ntmps15
  go_wp2_with fail
  refine H.out.mono ?_
  rintro e w' ⟨rfl, rfl⟩
  go_wp2_with (refine wpList_store_row rfl 39 (.tmp 4) (.tmp 16) rfl w.heap.size (fA fr0) rfl rfl 39 _ HX.out (infoFrA fr0_ok) rfl (fv_all _) ?_; rw [World.setRow_alloc_new])
  exact fr_end rfl rfl rfl rfl fr0_ok HX.out ⟨rfl, (Below.refl _ w).alloc (Nat.le_refl _) _⟩
theorem pins_no (w : World) (A : Option Addr) (h : NoPool w A) (p : Int) : Calls Try.prog 16 #[.pointer A, .int .i64 p] w (fun e w' => e = .returned (.int .i64 0) ∧ w = w') := by
  have H := Lib.hid (at_no w A h p)
  clear h
  go_enter Try.func16, Try.ntmps16
  go_wp2_with fail
  refine H.out.mono ?_
  rintro e w' ⟨rfl, rfl⟩
  go_wp2_with fail
  go_ret
  exact ⟨rfl, rfl⟩
theorem look_ok {K : Int} {S : PS} (hS : S.Ok K) (p : Int) : (lookV S p).1.Ok := by
  unfold lookV lookS
  cases hp : posF p S.s with
  | none => exact fr0_ok
  | some i =>
    obtain ⟨l, hl, _⟩ := posF_some hp
    simp only [hl, Option.getD_some]
    exact (hS.live i l hl).1
/-- Look's answers of a pool -/
def lookO {K : Int} {S : PS} (hS : S.Ok K) (p : Nat) : OFr × Bool := (⟨(lookV S (p : Int)).1, look_ok hS _⟩, (lookV S (p : Int)).2)
def pinO (S : PS) (f : OFr) : Int := pinsS S f.1.page
theorem tells_pool {w : World} {b m : Nat} {K : Int} {S : PS} (h : PoolAt w b m S) (hS : S.Ok K) : Tells w (some ⟨b, 0, none⟩) (lookO hS) (pinO S) where
  look W hW k hk := look_any W b m (h.later hW) hS (k : Int) (by unfold I64; omega)
  pins W hW f := pins_any W b m (h.later hW) hS f.1.page f.2.page
def lookN (p : Nat) : OFr × Bool := (⟨fr0, fr0_ok⟩, false)
theorem tells_no {w : World} {A : Option Addr} (h : NoPool w A) : Tells w A lookN (fun _ => 0) where
  look W hW k hk := look_no W A (h.later hW) (k : Int)
  pins W hW f := pins_no W A (h.later hW) f.1.page
theorem seen_no (k : Nat) : seenV lookN k = [] := by induction k with
  | zero => rfl
  | succ k ih => rw [seenV_no rfl, ih]
theorem seenV_mem {v : Nat → OFr × Bool} {n : Nat} {f : OFr} : f ∈ seenV v n ↔ ∃ k, k < n ∧ (v k).2 = true ∧ f = (v k).1 := by
  unfold seenV
  rw [List.mem_filterMap]
  constructor
  · rintro ⟨k, hk, e⟩
    rw [List.mem_range] at hk
    split at e
    · rename_i hv
      injection e with e
      exact ⟨k, hk, hv, e.symm⟩
    · cases e
  · rintro ⟨k, hk, hv, rfl⟩
    exact ⟨k, List.mem_range.2 hk, by rw [if_pos hv]⟩
theorem seen_any {K : Int} {S : PS} (hS : S.Ok K) : (seenV (lookO hS) 16).any (fun f => pinO S f == 0) = S.s.any canGo := by
  rw [Bool.eq_iff_iff, List.any_eq_true]
  constructor
  · rintro ⟨f, hf, hz⟩
    obtain ⟨k, hk, hv, rfl⟩ := seenV_mem.1 hf
    rw [List.any_eq_true]
    cases hp : posF (k : Int) S.s with
    | none => simp [lookO, lookV, lookS, hp] at hv
    | some i =>
      obtain ⟨l, hl, e⟩ := posF_some hp
      refine ⟨some l, List.mem_of_getElem? hl, ?_⟩
      simp only [pinO, lookO, lookV, lookS, hp, hl, Option.getD_some, pinsS, e] at hz
      exact hz
  · intro h
    obtain ⟨i, x, hi, hx⟩ := any_at h
    cases x with
    | none => cases hx
    | some l =>
      have hpg := mayF_page (hS.live i l hi).2.1
      have hp := posF_of hS hi
      have e : ((l.f.page.toNat : Nat) : Int) = l.f.page := by omega
      refine ⟨(lookO hS l.f.page.toNat).1, seenV_mem.2 ⟨l.f.page.toNat, by omega, ?_, rfl⟩, ?_⟩
      · simp [lookO, lookV, lookS, e, hp, hi]
      · simp [pinO, lookO, lookV, lookS, e, hp, hi, pinsS]
        simpa [canGo] using hx
theorem victim_no (w : World) (A : Option Addr) (h : NoPool w A) : Calls Try.prog 17 #[.pointer A] w (fun e w' => e = .returned (.tuple #[.int .i64 0, .bool false]) ∧ Below w.heap.size w w') :=
  victim_gen w A lookN (fun _ => 0) (tells_no h) _ (fun _ w' hb => ⟨rfl, hb⟩) (fun ht => by rw [seen_no] at ht; cases ht)
theorem victim_any (w : World) (b m : Nat) {K : Int} {S : PS} (h : PoolAt w b m S) (hS : S.Ok K) :
    Calls Try.prog 17 #[.pointer (some ⟨b, 0, none⟩)] w (fun e w' => e = .returned (.tuple #[.int .i64 (victimS S).1.1, .bool (victimS S).1.2]) ∧ PoolAt w' b m (victimS S).2 ∧ Ex (PB b m) w w') := by
  refine victim_gen w _ (lookO hS) (pinO S) (tells_pool h hS) _ (fun hf w' hb => ?_) (fun ht => ?_)
  · rw [seen_any] at hf
    rw [victimS_no hf]
    exact ⟨rfl, h.later hb, Ex.below hb⟩
  · rw [seen_any] at ht
    obtain ⟨r, hr, e⟩ := victimS_yes hS ht
    refine ⟨b, m, S, 600, r, K, rfl, h, hS, hr, fun w' hp hx => ?_⟩
    rw [e]
    exact ⟨rfl, hp, hx.mono (fun k hk => .inl hk)⟩
end Go.Proofs.Ytjbjfpbhacpeiaa
