/- Contract of the law's stands. -/
import Derived.Test.YtjbjfpbhacpeiaaL2
import Derived.Test.YtjbjfpbhacpeiaaL1
namespace Go.Proofs.Ytjbjfpbhacpeiaa
open Go.RowKit Go.Shelf
set_option linter.unusedSimpArgs false
set_option linter.unusedVariables false
set_option maxRecDepth 100000
attribute [local go_sem] Oper.semAt_some

theorem leave2 {F : Fence} {n : Nat} {P : Program} {fn : Func} {p : Tmp} {ty : TypeId} (hr : fn.results = #[.cell p ty]) (hu : P.underlying ty = some .bool) {tmps : Array Value} {B b4 D1 D2 : Nat} {v : Bool} {W0 w : World} (hp : tmps.getD p undef = .pointer (some ⟨b4, 0, none⟩)) (h4 : Boxed w b4 ty (.bool v))
    (h1 : w.heap[D1]? = some (.deferred (some []))) (h2 : w.heap[D2]? = some (.deferred (some []))) (hne : D2 ≠ D1) (hB : Below B W0 w) (hB1 : B ≤ D1) (hB2 : B ≤ D2) :
    LeavesInM F n P fn tmps (fun e w' => e = .returned (.bool v) ∧ Below B W0 w') [{ target := .collected D2, args := #[] }, { target := .collected D1, args := #[] }] .returning w := by
  refine ⟨by simp, .inl ⟨_, _, rfl, run_takeDeferred h2, ?_⟩⟩
  have h1' : (w.putObj D2 (.deferred none)).heap[D1]? = some (.deferred (some [])) := (World.putObj_heap_other (Ne.symm hne)).trans h1
  refine ⟨by simp, .inl ⟨_, _, rfl, run_takeDeferred h1', ?_⟩⟩
  have k4 : Boxed ((w.putObj D2 (.deferred none)).putObj D1 (.deferred none)) b4 ty (.bool v) := by
    have n2 : D2 ≠ b4 := fun e => by rw [e, show w.heap[b4]? = _ from h4] at h2; cases h2
    have n1 : D1 ≠ b4 := fun e => by rw [e, show w.heap[b4]? = _ from h4] at h1; cases h1
    exact (World.putObj_heap_other (Ne.symm n1)).trans ((World.putObj_heap_other (Ne.symm n2)).trans h4)
  have c4 := k4.cell
  refine ⟨.bool v, ?_, rfl, below_put (below_put hB _ hB2) _ hB1⟩
  have hp' : tmps[p]?.getD undef = .pointer (some ⟨b4, 0, none⟩) := by simpa using hp
  have hi : ∀ u, (isAgg ty).run P u = .ok false u := fun u => by unfold isAgg; rw [Sem.run_bind, run_underlying hu u]; rfl
  simp [results, hr, go_sem, hp', hi, c4]
theorem turn_e {L : List OFr} {t leave k : Int} {e : Exit} (h : e = .normal ∧ k = (L.length : Int) ∨ e = .exit 4 ∧ t = 0 ∧ k = leave) (K : Act → World → Prop) (Q : Exit → Act → World → Prop) (a : Act) (w : World) (hk : K a w) : Exit.inBlock 4 (Exit.then K Q) e a w := by
  rcases h with ⟨rfl, _⟩ | ⟨rfl, _⟩
  · exact hk
  · show (if 4 = 4 then Exit.then K Q Exit.normal a w else Exit.then K Q (Exit.exit 4) a w)
    rw [if_pos rfl]
    exact hk
theorem want_of {W : World} {base b12 c : Nat} {A : Option Addr} {K : Int} {S : PS} (hS : S.Ok K) (ho : W.ownsRow base 39 102 (.slice A (allS S).length c) (allS S).length ((allS S).flatMap fcells)) (hb : Boxed W b12 78 (.slice A (allS S).length c)) :
    ∀ W', Below W.heap.size W W' → WantAt W' b12 (seenV (lookO hS) 16) A c := fun W' hB => by
  have e : allS S = (seenV (lookO hS) 16).map (·.1) := by rw [← allK_16, seen_all hS]
  have el : (allS S).length = (seenV (lookO hS) 16).length := by rw [e, List.length_map]
  refine ⟨?_, ?_, fun hl => ?_⟩
  · rw [← el]
    exact (hb.kept (grown_of_below hB none) (by simp)).cell
  · rw [← e]
    exact (own_at ho).mono hB
  · obtain ⟨g, c', hv⟩ := own_pos ho (by omega)
    injection hv with hv
    exact ⟨g, hv⟩
theorem nilf81 (g : Nat) (u : World) : (Go.binOp .eql 81 (.func (.func 47) #[] #[.pointer (some ⟨g, 0, none⟩)]) .nilFunc).run Try.prog u = .ok (.bool false) u := by kernel_rfl
/-- both pools, and the law's two boxes -/
structure Std (w0 : World) (b m r q : Nat) (S : PS) (leave : Int) (W : World) : Prop where
  pool : PoolAt W b m S
  ref : RefAt W r q S
  b5 : Boxed W w0.heap.size 3 (.int .i64 leave)
  b6 : Boxed W (w0.heap.size + 1) 4 (.bool false)
  below : Below w0.heap.size w0 W
section
variable {w0 W w' : World} {b m r q : Nat} {S : PS} {leave : Int} (h : Std w0 b m r q S leave W)
include h
theorem Std.later (hb : Below W.heap.size W w') : Std w0 b m r q S leave w' :=
  ⟨h.pool.later hb, h.ref.later hb, h.b5.kept (grown_of_below hb none) (by simp), h.b6.kept (grown_of_below hb none) (by simp), h.below.trans (hb.mono h.below.size)⟩
theorem Std.alloc (o : Obj) : Std w0 b m r q S leave (W.alloc o) := h.later ((Below.refl _ W).alloc (Nat.le_refl _) o)
theorem Std.drewN (n : Nat) : Std w0 b m r q S leave (W.drewN n) := h.later ⟨rfl, rfl, rfl, Nat.le_refl _, fun _ _ => rfl⟩
end
theorem std_start (w : World) (b m r q : Nat) {S : PS} (hP : PoolAt w b m S) (hR : RefAt w r q S) (leave : Int) : Std w b m r q S leave ((w.alloc (.cells #[.int .i64 leave] 3)).alloc (.cells #[.bool false] 4)) :=
  ⟨(hP.alloc _).alloc _, (hR.alloc _).alloc _, (Boxed.new w 3 (.int .i64 leave)).alloc _, by
    have := Boxed.new (w.alloc (.cells #[.int .i64 leave] 3)) 4 (.bool false)
    rwa [World.size_alloc] at this, ((Below.refl _ w).alloc (Nat.le_refl _) _).alloc (by simp) _⟩
set_option maxHeartbeats 16000000 in
theorem stands_any (w : World) (b m r q : Nat) {K : Int} {S : PS} (hP : PoolAt w b m S) (hR : RefAt w r q S) (hS : S.Ok K) (leave : Int) (hl : I64 leave) :
    Calls Try.prog 12 #[.pointer (some ⟨b, 0, none⟩), .pointer (some ⟨r, 0, none⟩), .int .i64 leave] w (fun e w' => e = .returned (.bool true) ∧ Below w.heap.size w w') := by
  have H0 := Lib.hid (std_start w b m r q hP hR leave)
  have HS := Lib.hid hS
  have hbl : (b < w.heap.size ∧ m < w.heap.size) ∧ r < w.heap.size ∧ q < w.heap.size := ⟨⟨hP.cells.lt, hP.mlt⟩, hR.head.lt, hR.row.lt⟩
  clear hP hR hS
  refine (callsIn_wide (n := 5)).1 ?_
  refine callsIn_of_wp_marks Try.func12 rfl trivial ?_ rfl
  simp only [Try.ntmps12, List.size_toArray, List.length_cons, List.length_nil, Nat.reduceAdd, Nat.reduceSub, Array.replicate_succ, Array.replicate_zero, List.push_toArray, List.append_toArray, List.nil_append, List.cons_append]
  obtain ⟨Q, hQ⟩ : ∃ Q, Q = bodyPostM Fence.wide 5 Try.prog Try.f12 (fun e w' => e = .returned (.bool true) ∧ Below w.heap.size w w') := ⟨_, rfl⟩
  rw [← hQ]
  have HQ := Lib.hid hQ
  clear hQ
  have hn1 : 1 ≤ 5 := by omega
  refine wpIn_wide.2 ?_
  go_upto_region 1 with fail
  generalize (w.alloc (.cells #[.int .i64 leave] 3)).alloc (.cells #[.bool false] 4) = w1 at *
  go_wp2_with fail
  refine (len_any _ b m H0.out.pool HS.out).mono ?_
  rintro e w' ⟨rfl, rfl⟩
  go_wp2_with fail
  refine (rlen_any _ r q H0.out.ref HS.out).mono ?_
  rintro e w' ⟨rfl, rfl⟩
  go_wp2_with fail
  refine (room_any _ b m H0.out.pool HS.out).mono ?_
  rintro e w' ⟨rfl, n1, rfl⟩
  have H1 := Lib.hid (H0.out.drewN n1)
  clear H0
  generalize w1.drewN n1 = w2 at *
  go_wp2_with fail
  refine (rroom_any _ r q H1.out.ref HS.out).mono ?_
  rintro e w' ⟨rfl, n2, rfl⟩
  have H2 := Lib.hid (H1.out.drewN n2)
  clear H1
  generalize w2.drewN n2 = w3 at *
  go_wp2_with fail
  have hz := zfr
  go_loopg [7] 18 (fun kk i wr => ∃ j : Nat, i = .int .i64 ((j : Int) - 1) ∧ Hid (j + kk = 18 ∧ Std w b m r q S leave wr))
  case atStart => exact ⟨0, rfl, Lib.hid ⟨rfl, H2.out⟩⟩
  case round =>
    obtain ⟨j, rfl, hj⟩ := hrel
    by_cases hlt : j < 18
    · have hlI : (j : Int) - 1 ≤ 16 := by omega
      have HI : Hid (I64 ((j : Int) - 1)) := Lib.hid (by unfold I64; omega)
      have hw1 : IntKind.i64.wrap ((j : Int) - 1 + 1) = ((j + 1 : Nat) : Int) - 1 := by rw [IntWalk.i64_in _ (by omega)]; omega
      have HO := Lib.hid (look_ok HS.out ((j : Int) - 1))
      have hq := fun u => fr_equal u (lookV S ((j : Int) - 1)).1 (lookV S ((j : Int) - 1)).1 HO.out HO.out
      rw [frB_iff.2 rfl] at hq
      have HC1 := Lib.hid (look_any wr b m hj.out.2.pool HS.out ((j : Int) - 1) HI.out)
      have HC2 : Hid (∀ W, RefAt W r q S → Calls Try.prog 37 #[.pointer (some ⟨r, 0, none⟩), .int .i64 ((j : Int) - 1)] W (fun e w' => e = .returned (.tuple #[.agg (fA (lookV S ((j : Int) - 1)).1), .bool (lookV S ((j : Int) - 1)).2]) ∧ Below W.heap.size W w')) := Lib.hid (fun W hW => rlook_any W r q hW HS.out _)
      have HC3 : Hid (∀ W, PoolAt W b m S → Calls Try.prog 16 #[.pointer (some ⟨b, 0, none⟩), .int .i64 ((j : Int) - 1)] W (fun e w' => e = .returned (.int .i64 (pinsS S ((j : Int) - 1))) ∧ W = w')) := Lib.hid (fun W hW => pins_any W b m hW HS.out _ HI.out)
      have HC4 : Hid (∀ W, RefAt W r q S → Calls Try.prog 38 #[.pointer (some ⟨r, 0, none⟩), .int .i64 ((j : Int) - 1)] W (fun e w' => e = .returned (.int .i64 (pinsS S ((j : Int) - 1))) ∧ W = w')) := Lib.hid (fun W hW => rpins_any W r q hW HS.out _)
      generalize (lookV S ((j : Int) - 1)).1 = F at *
      generalize (lookV S ((j : Int) - 1)).2 = B at *
      generalize pinsS S ((j : Int) - 1) = N at *
      go_wp2_with fail
      refine HC1.out.mono ?_
      rintro e w4 ⟨rfl, hb⟩
      have H4 := Lib.hid ((hj.out.2.later hb).alloc (.cells (fA F) 39))
      have HX4 := Lib.hid (heap_alloc_new w4 (.cells (fA F) 39))
      clear hb HC1
      go_upto_region 7 with (refine wpList_store_row rfl 39 (.tmp 8) (.tmp 37) rfl _ (fA F) rfl rfl 39 _ (heap_alloc_new _ (.cells (fA fr0) 39)) (infoFrA HO.out) (fA_size fr0_ok HO.out) (fv_all _) ?_; rw [World.setRow_alloc_new])
      generalize w4.heap.size = g8 at *
      generalize w4.alloc (.cells (fA F) 39) = w5 at *
      go_wp2_with fail
      refine (HC2.out _ H4.out.ref).mono ?_
      rintro e w6 ⟨rfl, hb⟩
      have H6 := Lib.hid ((H4.out.later hb).alloc (.cells (fA F) 39))
      have HX6 := Lib.hid (heap_alloc_new w6 (.cells (fA F) 39))
      have HX8 := Lib.hid ((Below.heap_alloc w6 (.cells (fA F) 39) g8 (Nat.lt_of_lt_of_le (Array.getElem?_eq_some_iff.1 HX4.out).1 hb.size)).trans ((hb.block g8 (Array.getElem?_eq_some_iff.1 HX4.out).1).trans HX4.out))
      clear hb HC2 H4 HX4
      go_upto_region 8 with (refine wpList_store_row rfl 39 (.tmp 10) (.tmp 43) rfl _ (fA F) rfl rfl 39 _ (heap_alloc_new _ (.cells (fA fr0) 39)) (infoFrA HO.out) (fA_size fr0_ok HO.out) (fv_all _) ?_; rw [World.setRow_alloc_new])
      generalize w6.heap.size = g10 at *
      generalize w6.alloc (.cells (fA F) 39) = w7 at *
      have HC5 := Lib.hid (HC3.out _ H6.out.pool)
      have HC6 := Lib.hid (HC4.out _ H6.out.ref)
      go_wp2_with (first | (refine wpList_load_row rfl 39 (.tmp 8) rfl g8 rfl 39 (fA F) (0, 0) _ HX8.out fr_under rfl (infoFrA HO.out) ?_) | (refine wpList_load_row rfl 39 (.tmp 10) rfl g10 rfl 39 (fA F) (0, 0) _ HX6.out fr_under rfl (infoFrA HO.out) ?_))
      refine HC5.out.mono ?_
      rintro e w' ⟨rfl, rfl⟩
      go_wp2_with fail
      refine HC6.out.mono ?_
      rintro e w' ⟨rfl, rfl⟩
      go_wp2_with fail
      go_roundg (gk - 1)
      case measure => have := hj.out; omega
      case rel => exact ⟨j + 1, by first | (congr 1; omega) | (congr 1; push_cast; omega) | go_num, Lib.hid ⟨(by have := hj.out; omega), H6.out⟩⟩
    · have hlI : ¬ (j : Int) - 1 ≤ 16 := by have := hj.out; omega
      have HA := Lib.hid (rall_any wr r q hj.out.2.ref HS.out)
      have H3 := Lib.hid hj.out.2
      clear hj H2
      go_wp2_with fail
      refine HA.out.mono ?_
      rintro e w4 ⟨v, rfl, hown, hb⟩
      obtain ⟨A, c, rfl, hnc⟩ := own_form hown
      have hle4 : w.heap.size ≤ wr.heap.size := H3.out.below.size
      have HW4 := Lib.hid hown
      have H4 := Lib.hid (H3.out.later hb)
      clear hown hb HA
      go_upto_region 11 with fail
      have hB12 := Boxed.new w4 78 (.slice A (allS S).length c)
      have H5 := Lib.hid (H4.out.alloc (.cells #[.slice A (allS S).length c] 78))
      have HW5 := Lib.hid (HW4.out.alloc (.cells #[.slice A (allS S).length c] 78))
      have hl12 : w4.heap.size < (w4.alloc (.cells #[.slice A (allS S).length c] 78)).heap.size := by simp
      have HB12 := Lib.hid hB12
      clear hB12 H4 HW4
      generalize w4.heap.size = b12 at *
      generalize w4.alloc (.cells #[.slice A (allS S).length c] 78) = w5 at *
      have hnf := nilf81
      go_wp2_with fail
      refine (all_any w5 _).mono ?_
      rintro e w' ⟨rfl, rfl⟩
      go_upto_region 14 with fail
      have H6 := Lib.hid (H5.out.alloc (.cells #[.pointer (some ⟨b, 0, none⟩)] 23))
      have HW6 := Lib.hid (HW5.out.alloc (.cells #[.pointer (some ⟨b, 0, none⟩)] 23))
      have HB6 := Lib.hid (HB12.out.alloc (.cells #[.pointer (some ⟨b, 0, none⟩)] 23))
      have HA6 := Lib.hid (Boxed.new w5 23 (.pointer (some ⟨b, 0, none⟩)))
      clear H5 HW5 HB12 H3
      have hlA : w5.heap.size < (w5.alloc (.cells #[.pointer (some ⟨b, 0, none⟩)] 23)).heap.size := by simp
      have hl12' : b12 < w5.heap.size := hl12
      generalize w5.heap.size = gA at *
      generalize w5.alloc (.cells #[.pointer (some ⟨b, 0, none⟩)] 23) = w6 at *
      have HWt := Lib.hid (want_of HS.out HW6.out HB6.out)
      have hlen : (allS S).length = (seenV (lookO HS.out) 16).length := by rw [← allK_16, seen_all HS.out, List.length_map]
      have hle6 : w.heap.size + 1 < w6.heap.size := H6.out.b6.lt
      clear HW6
      rw [hlen] at HB6
      clear hlen hnf
      go_wp2_with fail
      refine (wpIn_wide (n := 5)).1 ?_
      refine wpIn_loop_rounds 3 ?_
      rw [roundsIn_succ]
      gi_wp2_with fail
      have U0 : Boxed ((w6.alloc (.cells #[.int .i64 0] 3)).alloc (.cells #[.int .i64 0] 3)) (w6.heap.size + 1) 3 (.int .i64 0) := by
        have := Boxed.new (w6.alloc (.cells #[.int .i64 0] 3)) 3 (.int .i64 0)
        rwa [World.size_alloc] at this
      have U9 : Boxed ((w6.alloc (.cells #[.int .i64 0] 3)).alloc (.cells #[.int .i64 0] 3)) w6.heap.size 3 (.int .i64 0) := (Boxed.new w6 3 (.int .i64 0)).alloc _
      have hbb : Below w6.heap.size w6 ((w6.alloc (.cells #[.int .i64 0] 3)).alloc (.cells #[.int .i64 0] 3)) := ((Below.refl _ _).alloc (Nat.le_refl _) _).alloc (by simp) _
      generalize (w6.alloc (.cells #[.int .i64 0] 3)).alloc (.cells #[.int .i64 0] 3) = w8 at *
      have H8 := Lib.hid (H6.out.later hbb)
      have HA8 := Lib.hid (HA6.out.kept (grown_of_below hbb none) (by simp))
      have HB8 := Lib.hid (HB6.out.kept (grown_of_below hbb none) (by simp))
      have HW8 : Hid (∀ W', Below w6.heap.size w8 W' → WantAt W' b12 (seenV (lookO HS.out) 16) A c) := Lib.hid (fun W' hW => HWt.out W' (hbb.trans hW))
      have hs8 : w6.heap.size + 1 < w8.heap.size := U0.lt
      clear H6 HA6 HB6 HWt hbb
      have hlt6 : b12 < w6.heap.size := by omega
      refine turn_in 5 (by omega) b m HS.out gA w.heap.size (w.heap.size + 1) b12 w6.heap.size (w6.heap.size + 1) 0 leave (.inl rfl) w8 H8.out.pool (by omega) (by omega) (by omega) (by omega) (by omega) (by omega)
        H8.out.b5.cell H8.out.b6.frozen H8.out.b6.cell U9.cell HA8.out.cell A c (fun W' hW => HW8.out W' (hW.mono (by omega))) U0 _ _ _ _ _ _ _ _ _ _ _ _ _ _ _ _ _ _ _ _ _ _ _ _ _ _ _ _ _ _ _ _ _ _ _ _ _ _ _ _ _ _ _ _ _ _ _ _ _ _ _ _ _ _ _ _ _ _ _ _ _ _ _ _ _ _ _ _ _ _ _ _ _ _ _ _ _ _ _ _ _ _ _ _ _ _ _ _ _ _ _ _ _ _ _ _ _ _ _ _ _ _ _ _ _ _ _ _ _ _ _ _ _ _ _ ?_
      rintro e D1 w9 k1 ⟨how, hbl9, hbx, hsz, hdf⟩
      have hk1 : k1 = ((seenV (lookO HS.out) 16).length : Int) ∨ k1 = leave := how.elim (fun h => .inl h.2) (fun h => .inr h.2.2)
      refine turn_e how _ _ _ _ ?_
      clear how
      have q5 := (hbl9.cell (p := ⟨w.heap.size, 0, none⟩) (by dsimp only; omega)).trans H8.out.b5.cell
      have q14 := (hbl9.cell (p := ⟨w6.heap.size, 0, none⟩) (Nat.lt_succ_self _)).trans U9.cell
      have q12 := (HW8.out w9 (hbl9.mono (by omega))).cell
      have q15 := hbx.cell
      gi_upto_region 24 with fail
      gi_cut [117] from 16 (fun v wx => v = .bool false ∧ wx = w9)
      case first =>
        by_cases hk : k1 = ((seenV (lookO HS.out) 16).length : Int)
        · have hkb : (k1 != ((seenV (lookO HS.out) 16).length : Int)) = false := by simp [hk]
          clear hk1 hk
          gi_wp2_with fail
          gi_meet
          exact ⟨rfl, rfl⟩
        · have hkb : (k1 != ((seenV (lookO HS.out) 16).length : Int)) = true := by simp [hk]
          have hlv := hk1.resolve_left hk
          have hlb : (k1 != leave) = false := by simp [hlv]
          clear hk1 hk hlv
          gi_wp2_with fail
          gi_meet
          exact ⟨rfl, rfl⟩
      case rest =>
        obtain ⟨rfl, rfl⟩ := hcut
        have s9 : w8.heap.size ≤ wc.heap.size := hbl9.size
        have H9 := Lib.hid (⟨H8.out.pool.kept (ex_of_below hbl9) (by omega) (by omega), H8.out.ref.kept (ex_of_below hbl9) (by omega) (by omega), (hbl9.block _ (by omega)).trans H8.out.b5, (hbl9.block _ (by omega)).trans H8.out.b6, H8.out.below.trans (hbl9.mono (by omega))⟩ : Std w b m r q S leave wc)
        have HA9 : Hid (Boxed wc gA 23 (.pointer (some ⟨b, 0, none⟩))) := Lib.hid ((hbl9.block _ (by omega)).trans HA8.out)
        have HW9 : Hid (∀ W', Below w6.heap.size wc W' → WantAt W' b12 (seenV (lookO HS.out) 16) A c) := Lib.hid (fun W' hW => HW8.out W' ((hbl9.mono (by omega)).trans hW))
        have HD1 := Lib.hid hdf
        have sD := (Array.getElem?_eq_some_iff.1 hdf).1
        clear q5 q12 q15 hk1 hbx hdf hbl9 H8 HA8 HB8 HW8 U0 U9
        gi_wp2_with fail
        rw [roundsIn_succ]
        gi_wp2_with fail
        have V0 : Boxed ((wc.alloc (.cells #[.int .i64 1] 3)).alloc (.cells #[.int .i64 0] 3)) (wc.heap.size + 1) 3 (.int .i64 0) := by
          have := Boxed.new (wc.alloc (.cells #[.int .i64 1] 3)) 3 (.int .i64 0)
          rwa [World.size_alloc] at this
        have V9 : Boxed ((wc.alloc (.cells #[.int .i64 1] 3)).alloc (.cells #[.int .i64 0] 3)) wc.heap.size 3 (.int .i64 1) := (Boxed.new wc 3 (.int .i64 1)).alloc _
        have hbb : Below wc.heap.size wc ((wc.alloc (.cells #[.int .i64 1] 3)).alloc (.cells #[.int .i64 0] 3)) := ((Below.refl _ _).alloc (Nat.le_refl _) _).alloc (by simp) _
        generalize (wc.alloc (.cells #[.int .i64 1] 3)).alloc (.cells #[.int .i64 0] 3) = w10 at *
        have H10 := Lib.hid (H9.out.later hbb)
        have HA10 := Lib.hid (HA9.out.kept (grown_of_below hbb none) (by simp))
        have HW10 : Hid (∀ W', Below w6.heap.size w10 W' → WantAt W' b12 (seenV (lookO HS.out) 16) A c) := Lib.hid (fun W' hW => HW9.out W' ((hbb.mono (by omega)).trans hW))
        have HD10 := Lib.hid ((hbb.block D1 sD).trans HD1.out)
        have s10 : wc.heap.size + 1 < w10.heap.size := V0.lt
        clear H9 HA9 HW9 HD1 hbb
        refine turn_in 5 (by omega) b m HS.out gA w.heap.size (w.heap.size + 1) b12 wc.heap.size (wc.heap.size + 1) 1 leave (.inr rfl) w10 H10.out.pool (by omega) (by omega) (by omega) (by omega) (by omega) (by omega)
          H10.out.b5.cell H10.out.b6.frozen H10.out.b6.cell V9.cell HA10.out.cell A c (fun W' hW => HW10.out W' (hW.mono (by omega))) V0 _ _ _ _ _ _ _ _ _ _ _ _ _ _ _ _ _ _ _ _ _ _ _ _ _ _ _ _ _ _ _ _ _ _ _ _ _ _ _ _ _ _ _ _ _ _ _ _ _ _ _ _ _ _ _ _ _ _ _ _ _ _ _ _ _ _ _ _ _ _ _ _ _ _ _ _ _ _ _ _ _ _ _ _ _ _ _ _ _ _ _ _ _ _ _ _ _ _ _ _ _ _ _ _ _ _ _ _ _ _ _ _ _ _ _ ?_
        rintro e D2 w11 k2 ⟨how, hbl, hbx, hsz2, hdf⟩
        obtain ⟨rfl, rfl⟩ : e = .normal ∧ k2 = ((seenV (lookO HS.out) 16).length : Int) := how.elim id (fun h => absurd h.2.1 (by omega))
        clear how
        have q5 := (hbl.cell (p := ⟨w.heap.size, 0, none⟩) (by dsimp only; omega)).trans H10.out.b5.cell
        have q14 := (hbl.cell (p := ⟨wc.heap.size, 0, none⟩) (Nat.lt_succ_self _)).trans V9.cell
        have q12 := (HW10.out w11 (hbl.mono (by omega))).cell
        have q15 := hbx.cell
        have J6 : Boxed w11 (w.heap.size + 1) 4 (.bool false) := (hbl.block _ (by omega)).trans H10.out.b6
        have JB := Lib.hid (H10.out.below.trans (hbl.mono (by omega)))
        have JD := Lib.hid ((hbl.block D1 (by omega)).trans HD10.out)
        have JD2 := Lib.hid hdf
        have J6c := J6.cell
        have J6f := J6.frozen
        have HJ6 := Lib.hid J6
        have s11 := hbl.size
        clear hbl hdf hbx H10 HA10 HW10 HD10 V0 V9 J6
        gi_wp2_with fail
        rw [roundsIn_succ]
        gi_wp2_with fail
        have l1 := (Array.getElem?_eq_some_iff.1 JD.out).1
        have l2 := (Array.getElem?_eq_some_iff.1 JD2.out).1
        have hbA : Below w11.heap.size w11 (w11.alloc (.cells #[.int .i64 2] 3)) := (Below.refl _ _).alloc (Nat.le_refl _) _
        have K6 := HJ6.out.alloc (.cells #[.int .i64 2] 3)
        have K6c := K6.cell
        have K6f := K6.frozen
        have HK6 := Lib.hid K6
        have G1 := Lib.hid ((hbA.block D1 l1).trans JD.out)
        have G2 := Lib.hid ((hbA.block D2 l2).trans JD2.out)
        have GB := Lib.hid (JB.out.trans (hbA.mono (by omega)))
        clear K6 hbA q5 q14 q12 q15 J6c J6f
        generalize w11.alloc (.cells #[.int .i64 2] 3) = w12 at *
        go_wp2_with fail
        rw [HQ.out]
        have n1 : D1 ≠ w.heap.size + 1 := fun e => by have := G1.out; rw [e, show w12.heap[w.heap.size + 1]? = _ from HK6.out] at this; cases this
        have n2 : D2 ≠ w.heap.size + 1 := fun e => by have := G2.out; rw [e, show w12.heap[w.heap.size + 1]? = _ from HK6.out] at this; cases this
        exact leave2 rfl Try.underlying4 rfl (HK6.out.set (.bool true)) ((Below.heap_setCell w12 ⟨w.heap.size + 1, 0, none⟩ _ D1 n1).trans G1.out) ((Below.heap_setCell w12 ⟨w.heap.size + 1, 0, none⟩ _ D2 n2).trans G2.out) (by omega)
          (GB.out.setCell (p := ⟨w.heap.size + 1, 0, none⟩) (by dsimp only; omega) _) (by omega) (by omega)
end Go.Proofs.Ytjbjfpbhacpeiaa
