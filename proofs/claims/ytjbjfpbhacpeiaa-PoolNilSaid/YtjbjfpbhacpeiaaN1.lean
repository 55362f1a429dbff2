/- Contract of the law's nothing: of a pool that is not there. -/
import Derived.Test.YtjbjfpbhacpeiaaS4
import Derived.Test.YtjbjfpbhacpeiaaL3
namespace Go.Proofs.Ytjbjfpbhacpeiaa
open Go.RowKit Go.Shelf
set_option linter.unusedSimpArgs false
set_option linter.unusedVariables false
set_option maxRecDepth 100000
attribute [local go_sem] Oper.semAt_some

theorem leave1c {F : Fence} {n : Nat} {P : Program} {fn : Func} {p : Tmp} {ty : TypeId} (hr : fn.results = #[.cell p ty]) (hu : P.underlying ty = some .bool) {tmps : Array Value} {B b4 D1 : Nat} {v : Bool} {W0 w : World} (hp : tmps.getD p undef = .pointer (some ⟨b4, 0, none⟩)) (h4 : Boxed w b4 ty (.bool v))
    (h1 : w.heap[D1]? = some (.deferred (some []))) (hB : Below B W0 w) (hB1 : B ≤ D1) :
    LeavesInM F n P fn tmps (fun e w' => e = .returned (.bool v) ∧ Below B W0 w') [{ target := .collected D1, args := #[] }] .returning w := by
  refine ⟨by simp, .inl ⟨_, _, rfl, run_takeDeferred h1, ?_⟩⟩
  have k4 : Boxed (w.putObj D1 (.deferred none)) b4 ty (.bool v) := by
    have n1 : D1 ≠ b4 := fun e => by rw [e, show w.heap[b4]? = _ from h4] at h1; cases h1
    exact (World.putObj_heap_other (Ne.symm n1)).trans h4
  have c4 := k4.cell
  refine ⟨.bool v, ?_, rfl, below_put hB _ hB1⟩
  have hp' : tmps[p]?.getD undef = .pointer (some ⟨b4, 0, none⟩) := by simpa using hp
  have hi : ∀ u, (isAgg ty).run P u = .ok false u := fun u => by unfold isAgg; rw [Sem.run_bind, run_underlying hu u]; rfl
  simp [results, hr, go_sem, hp', hi, c4]
/-- no pool, the law's box -/
structure Non (w0 : World) (A : Option Addr) (W : World) : Prop where
  no : NoPool W A
  b2 : Boxed W w0.heap.size 4 (.bool false)
  below : Below w0.heap.size w0 W
section
variable {w0 W w' : World} {A : Option Addr} (h : Non w0 A W)
include h
theorem Non.later (hb : Below W.heap.size W w') : Non w0 A w' := ⟨h.no.later hb, h.b2.kept (grown_of_below hb none) (by simp), h.below.trans (hb.mono h.below.size)⟩
theorem Non.alloc (o : Obj) : Non w0 A (W.alloc o) := h.later ((Below.refl _ W).alloc (Nat.le_refl _) o)
end
set_option maxHeartbeats 16000000 in
theorem nothing_any (w : World) (A : Option Addr) (h : NoPool w A) : Calls Try.prog 25 #[.pointer A] w (fun e w' => e = .returned (.bool true) ∧ Below w.heap.size w w') := by
  have hz := zfr
  have HN := Lib.hid (⟨h.later ((Below.refl _ w).alloc (Nat.le_refl _) (.cells #[.bool false] 4)), Boxed.new w 4 (.bool false), (Below.refl _ w).alloc (Nat.le_refl _) _⟩ : Non w A (w.alloc (.cells #[.bool false] 4)))
  have h0 := Lib.hid fr0_ok
  clear h
  refine (callsIn_wide (n := 5)).1 ?_
  refine callsIn_of_wp_marks Try.func25 rfl trivial ?_ rfl
  simp only [Try.ntmps25, List.size_toArray, List.length_cons, List.length_nil, Nat.reduceAdd, Nat.reduceSub, Array.replicate_succ, Array.replicate_zero, List.push_toArray, List.append_toArray, List.nil_append, List.cons_append]
  obtain ⟨Q, hQ⟩ : ∃ Q, Q = bodyPostM Fence.wide 5 Try.prog Try.f25 (fun e w' => e = .returned (.bool true) ∧ Below w.heap.size w w') := ⟨_, rfl⟩
  rw [← hQ]
  have HQ := Lib.hid hQ
  clear hQ
  have hn1 : 1 ≤ 5 := by omega
  refine wpIn_wide.2 ?_
  go_upto_region 1 with fail
  generalize w.alloc (.cells #[.bool false] 4) = w1 at *
  go_wp2_with fail
  refine (get_no _ A HN.out.no 0).mono ?_
  rintro e w2 ⟨rfl, hb⟩
  have H2 := Lib.hid ((HN.out.later hb).alloc (.cells (fA fr0) 39))
  clear hb HN
  go_upto_region 2 with (refine wpList_store_row rfl 39 (.tmp 3) (.tmp 15) rfl _ (fA fr0) rfl rfl 39 _ (heap_alloc_new _ (.cells (fA fr0) 39)) (infoFrA fr0_ok) rfl (fv_all _) ?_; rw [World.setRow_alloc_new])
  generalize w2.heap.size = g3 at *
  generalize w2.alloc (.cells (fA fr0) 39) = w3 at *
  go_wp2_with fail
  refine (look_no _ A H2.out.no 0).mono ?_
  rintro e w4 ⟨rfl, hb⟩
  have H4 := Lib.hid ((H2.out.later hb).alloc (.cells (fA fr0) 39))
  clear hb H2
  go_upto_region 3 with (refine wpList_store_row rfl 39 (.tmp 5) (.tmp 20) rfl _ (fA fr0) rfl rfl 39 _ (heap_alloc_new _ (.cells (fA fr0) 39)) (infoFrA fr0_ok) rfl (fv_all _) ?_; rw [World.setRow_alloc_new])
  generalize w4.heap.size = g5 at *
  generalize w4.alloc (.cells (fA fr0) 39) = w5 at *
  go_wp2_with fail
  refine (drop_no _ A H4.out.no 0).mono ?_
  rintro e w6 ⟨rfl, hb⟩
  have H6 := Lib.hid ((H4.out.later hb).alloc (.cells (fA fr0) 39))
  clear hb H4
  go_upto_region 4 with (refine wpList_store_row rfl 39 (.tmp 7) (.tmp 25) rfl _ (fA fr0) rfl rfl 39 _ (heap_alloc_new _ (.cells (fA fr0) 39)) (infoFrA fr0_ok) rfl (fv_all _) ?_; rw [World.setRow_alloc_new])
  generalize w6.heap.size = g7 at *
  generalize w6.alloc (.cells (fA fr0) 39) = w7 at *
  go_wp2_with fail
  refine (victim_no _ A H6.out.no).mono ?_
  rintro e w8 ⟨rfl, hb⟩
  have H8 := Lib.hid (H6.out.later hb)
  clear hb H6
  go_wp2_with fail
  refine (all_any w8 A).mono ?_
  rintro e w' ⟨rfl, rfl⟩
  have H9 := Lib.hid (H8.out.alloc (.cells #[.pointer A] 23))
  have HA9 := Lib.hid (Boxed.new w8 23 (.pointer A))
  have hnf : ∀ u, (Go.binOp .eql 81 (.func (.func 47) #[] #[.pointer (some ⟨w8.heap.size, 0, none⟩)]) .nilFunc).run Try.prog u = .ok (.bool false) u := nilf81 w8.heap.size
  clear H8
  generalize w8.heap.size = gA at *
  generalize w8.alloc (.cells #[.pointer A] 23) = w9 at *
  go_wp2_with fail
  refine (wpIn_wide (n := 5)).1 ?_
  have hE : Eye (Below w9.heap.size w9) gA A lookN := {
    cell := fun W' hW => (hW.cell (p := ⟨gA, 0, none⟩) HA9.out.lt).trans HA9.out.cell
    look := fun W' hW k hk => look_no W' A (H9.out.no.later hW) (k : Int)
    keep := fun W' W'' hW hb => hW.trans (hb.mono hW.size) }
  have hN0 : (seenV lookN 16).length ≤ 0 := by rw [seen_no]; exact Nat.le_refl _
  refine wpIn_rangeFunc_ownH (α := OFr) (encs := encF) (Kp := Below w9.heap.size) (S := fun xs => xs = seenV lookN 16) (Sp := fun pre => ∃ k, k ≤ 16 ∧ pre = seenV lookN k) (N := 0) rfl (by omega) (gf := 47) (lb := #[.pointer (some ⟨gA, 0, none⟩)]) rfl trivial (enters_of Try.func47 (by kernel_rfl) rfl)
    (all_stops 4 (by omega) gA 0 A lookN _ hE hN0 (Below w9.heap.size) (fun _ _ h k => h.trans k) w9 (Below.refl _ _)) (fun h k => h.trans k)
    (fun W' l o o' hl _ _ _ => below_put (Below.refl _ _) _ hl) (Below.refl _ _) (fun _ => rfl)
    (fun _ W' => Below w9.heap.size w9 W') (fun _ pre _ => pre ≠ []) (ownFrom_below (Nat.le_refl _) (Nat.le_refl _)) (fun _ => ownFrom_pure _ _) (Below.refl _ _)
    (fun _ _ _ => True) (fun _ _ => ownFrom_pure _ _) ?assign ?body ?done ?stop
  case assign =>
    intro l pre x W' K' hI hK'
    gi_wp2_with fail
    exact hK' _ _ (KeepsFrom.refl _ _) (Below.refl _ _) hI trivial
  case body =>
    intro l pre x a' W' _ _ _ _ hlen
    exact absurd hlen (by omega)
  case stop =>
    rintro D c pre W' hD ⟨k, hk, rfl⟩ hs hK'
    exact (hs (seen_no k)).elim
  case done =>
    rintro D xs W' hD rfl hB hK'
    rename_i Kt hKt
    refine hKt _ _ ?_
    have H10 := Lib.hid (H9.out.later hB)
    have HD := Lib.hid hK'
    have hDw : w.heap.size ≤ D := Nat.le_trans H9.out.below.size hD
    clear H9 hE hN0 hB hK' hKt
    go_wp2_with fail
    refine (frame_any _ 1 (by unfold I64; omega)).mono ?_
    rintro e w' ⟨rfl, rfl⟩
    have H11 := Lib.hid (H10.out.alloc (.cells (fA (frF 1)) 39))
    have HD11 := Lib.hid ((Below.heap_alloc W' (.cells (fA (frF 1)) 39) D (Array.getElem?_eq_some_iff.1 HD.out).1).trans HD.out)
    clear H10 HD
    generalize W'.alloc (.cells (fA (frF 1)) 39) = w11 at *
    go_wp2_with fail
    refine (set_no w11 A H11.out.no (frF 1) (frF_ok (by unfold I64; omega))).mono ?_
    rintro e w12 ⟨rfl, hb⟩
    have H12 := Lib.hid (H11.out.later hb)
    have HD12 := Lib.hid ((hb.block D (Array.getElem?_eq_some_iff.1 HD11.out).1).trans HD11.out)
    clear hb H11 HD11
    have c2 := H12.out.b2.cell
    have f2 := H12.out.b2.frozen
    go_wp2_with fail
    refine (num_any _ _).mono ?_
    rintro e w' ⟨rfl, rfl⟩
    go_wp2_with fail
    refine (num_any _ _).mono ?_
    rintro e w' ⟨rfl, rfl⟩
    go_wp2_with fail
    refine (num_any _ _).mono ?_
    rintro e w' ⟨rfl, rfl⟩
    go_wp2_with fail
    refine (pinUp_no _ A H12.out.no 0).mono ?_
    rintro e w' ⟨rfl, rfl⟩
    go_wp2_with fail
    refine (num_any _ _).mono ?_
    rintro e w' ⟨rfl, rfl⟩
    go_wp2_with fail
    refine (pinDown_no _ A H12.out.no 0).mono ?_
    rintro e w' ⟨rfl, rfl⟩
    go_wp2_with fail
    refine (num_any _ _).mono ?_
    rintro e w' ⟨rfl, rfl⟩
    go_wp2_with fail
    refine (pins_no _ A H12.out.no 0).mono ?_
    rintro e w' ⟨rfl, rfl⟩
    go_wp2_with fail
    refine (len_no _ A H12.out.no).mono ?_
    rintro e w' ⟨rfl, rfl⟩
    go_wp2_with fail
    refine (room_no _ A H12.out.no).mono ?_
    rintro e w' ⟨rfl, rfl⟩
    go_wp2_with fail
    refine (clear_no _ A H12.out.no).mono ?_
    rintro e w' ⟨rfl, rfl⟩
    go_wp2_with fail
    refine (copy_no _ A H12.out.no).mono ?_
    rintro e w' ⟨rfl, rfl⟩
    go_wp2_with fail
    refine (same_not _ A none false false (there_no _ A H12.out.no) (there_no _ none (.inl rfl)) rfl).mono ?_
    rintro e w' ⟨rfl, rfl⟩
    go_wp2_with fail
    rw [HQ.out]
    have n1 : D ≠ w.heap.size := fun e => by have := HD12.out; rw [e, show w12.heap[w.heap.size]? = _ from H12.out.b2] at this; cases this
    exact leave1c rfl Try.underlying4 rfl (H12.out.b2.set (.bool true)) ((Below.heap_setCell w12 ⟨w.heap.size, 0, none⟩ _ D n1).trans HD12.out)
      (H12.out.below.setCell (p := ⟨w.heap.size, 0, none⟩) (Nat.le_refl _) _) hDw
end Go.Proofs.Ytjbjfpbhacpeiaa
