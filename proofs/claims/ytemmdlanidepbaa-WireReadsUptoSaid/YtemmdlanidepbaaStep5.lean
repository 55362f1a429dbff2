/- Contract of the law's step: lists of numbers. -/
import Derived.Test.YtemmdlanidepbaaStep45
namespace Go.Proofs.Ytemmdlanidepbaa
open Go.RowKit
set_option linter.unusedSimpArgs false

theorem many_len : ∀ (n : Nat) (l : List UInt8) (P : List Nat) (m : Nat), many dec1 n l = some (P, m) → P.length ≤ l.length := by
  intro n
  induction n with
  | zero => intro l P m h; simp only [many, Option.some.injEq, Prod.mk.injEq] at h; rw [← h.1]; exact Nat.zero_le _
  | succ n ih =>
    intro l P m h
    cases hd : dec1 l with
    | none => simp [many, hd] at h
    | some r =>
      obtain ⟨x, k⟩ := r
      have hf := dec_fits _ _ _ (by omega) (by simp) _ _ hd
      cases hm : many dec1 n (l.drop k) with
      | none => simp [many, hd, hm] at h
      | some r2 =>
        obtain ⟨xs, m2⟩ := r2
        simp only [many, hd, hm, Option.some.injEq, Prod.mk.injEq] at h
        obtain ⟨rfl, _⟩ := h
        have := ih _ _ _ hm
        rw [List.length_drop] at this
        simp only [List.length_cons]
        omega

section
variable (w : World) (g : Nat) (ad : Addr) (c gd : Nat) (A : Option Addr) (cA : Nat) (l : List UInt8) (pos : Nat) (b : Both w g ad c gd A cA l pos) (M : Int)
include b
set_option maxRecDepth 100000 in
set_option maxHeartbeats 2000000 in
theorem step5_neg (hM : M < 0) :
    Calls Try.prog 31 #[.pointer (some ⟨g, 0, none⟩), .pointer (some ⟨gd, 0, none⟩), .agg #[.int .i64 5, .int .i64 M]] w (Stepped w g ad c gd A cA l) := by
  obtain ⟨b0, HX⟩ := b.stay (w1 := w) (.cells #[.int .i64 5, .int .i64 M] 64)
  have q1 : (w.alloc (.cells #[.int .i64 5, .int .i64 M] 64)).cell? ⟨w.heap.size, 1, none⟩ = some (.int .i64 M) := by simp
  have hlt := b.r.lt
  have HC := Lib.hid (take1_fail _ _ _ _ _ _ b0.r M 2 pos rfl ((count_neg _ g M hM).mono fun e w' h => by obtain ⟨h1, rfl⟩ := h; exact ⟨h1, b0.r, grown_drewN _ 0 _⟩))
  go_enter Try.func31, Try.ntmps31
  go_wp2_with fail
  refine HC.out.mono ?_
  rintro e w1 ⟨rfl, hr, hg⟩
  have q1' : w1.cell? ⟨w.heap.size, 1, none⟩ = some (.int .i64 M) := hg.cell q1 (fun e => by injection e with e; have : w.heap.size = g := e; omega)
  have B := Lib.hid (b0.join hr (b0.other hg))
  have HX2 := Lib.hid (HX.out.trans (ex_two (gd := gd) hg))
  clear q1 hr hg HX b0 b
  go_wp2_with fail
  refine (num_any _ _).mono ?_
  rintro e' w' ⟨rfl, rfl⟩
  go_wp2_with fail
  go_ret
  exact ⟨rfl, _, B.out, HX2.out⟩
set_option maxRecDepth 100000 in
set_option maxHeartbeats 2000000 in
theorem step5_no (hM : 0 ≤ M) (e : Int) (p : Nat)
    (HN : ∀ W, Both W g ad c gd A cA l pos → Calls Try.prog 44 #[.pointer (some ⟨g, 0, none⟩), .int .i64 M, .func (.func 20) #[] #[]] W (Rd2 W g ad c l p (.slice none 0 0) (.int .i64 e)))
    (HR : ∀ W, RRdr W gd A cA l pos → Calls Try.prog 45 #[.pointer (some ⟨gd, 0, none⟩), .int .i64 M] W (RRd2 W gd A cA l p (.slice none 0 0) (.int .i64 e))) :
    Calls Try.prog 31 #[.pointer (some ⟨g, 0, none⟩), .pointer (some ⟨gd, 0, none⟩), .agg #[.int .i64 5, .int .i64 M]] w (Stepped w g ad c gd A cA l) := by
  obtain ⟨b0, HX⟩ := b.stay (w1 := w) (.cells #[.int .i64 5, .int .i64 M] 64)
  have q1 : (w.alloc (.cells #[.int .i64 5, .int .i64 M] 64)).cell? ⟨w.heap.size, 1, none⟩ = some (.int .i64 M) := by simp
  have hlt := b.r.lt
  have hltd := b.d.lt
  have HN' := Lib.hid HN
  have HR' := Lib.hid HR
  clear HN HR
  go_enter Try.func31, Try.ntmps31
  go_wp2_with fail
  refine (HN'.out _ b0).mono ?_
  rintro e' w1 ⟨rfl, hr, hg⟩
  have q1' : w1.cell? ⟨w.heap.size, 1, none⟩ = some (.int .i64 M) := hg.cell q1 (fun e => by injection e with e; have : w.heap.size = g := e; omega)
  clear q1
  go_wp2_with fail
  refine (HR'.out _ (b0.other hg)).mono ?_
  rintro e' w2 ⟨rfl, hdd, hg2⟩
  have B := Lib.hid (b0.join (b0.keep hr hg2) hdd)
  have HX2 := Lib.hid ((HX.out.trans (ex_two hg)).trans (ex_two' hg2))
  clear hr hg hdd hg2 HN' HR' HX b0 q1'
  go_wp2_with fail
  refine (num_any _ _).mono ?_
  rintro e' w' ⟨rfl, rfl⟩
  go_wp2_with fail
  refine wp_loop_rounds 1 ?_
  rw [rounds_succ]
  go_wp2
  (try rw [Exit.noGoto_ret])
  go_ret
  exact ⟨rfl, _, B.out, HX2.out⟩
set_option maxRecDepth 100000 in
set_option maxHeartbeats 2000000 in
theorem step5_ok (hM : 0 ≤ M) (hM2 : M ≤ 9223372036854775807) (hl : l.length ≤ 1073741824) {x k m : Nat} {P : List Nat} (hd : dec 0 0 (l.drop pos) = some (x, k)) (hx : (x : Int) ≤ M) (hm : many dec1 x (l.drop (pos + k)) = some (P, m)) (hP : P.length ≤ 1073741824) :
    Calls Try.prog 31 #[.pointer (some ⟨g, 0, none⟩), .pointer (some ⟨gd, 0, none⟩), .agg #[.int .i64 5, .int .i64 M]] w (Stepped w g ad c gd A cA l) := by
  obtain ⟨b0, HX⟩ := b.stay (w1 := w) (.cells #[.int .i64 5, .int .i64 M] 64)
  have q1 : (w.alloc (.cells #[.int .i64 5, .int .i64 M] 64)).cell? ⟨w.heap.size, 1, none⟩ = some (.int .i64 M) := by simp
  have hlt := b.r.lt
  have hltd := b.d.lt
  have HN' := Lib.hid (take1_any _ _ _ _ _ _ b0.r hl M hM2 hd hx)
  have HR' := Lib.hid (fun W (h : RRdr W gd A cA l pos) => rrNums_any W gd A cA l pos h hl M hM2 hd hx)
  have Hm := Lib.hid hm
  clear hd hx hm
  go_enter Try.func31, Try.ntmps31
  go_wp2_with fail
  refine HN'.out.mono ?_
  intro e' w1 hpost
  unfold NumsRead at hpost
  rw [Hm.out] at hpost
  obtain ⟨v1, rfl, ho, hr, hg⟩ := hpost
  obtain ⟨A1, c1, rfl, _⟩ := own_form ho
  have q1' : w1.cell? ⟨w.heap.size, 1, none⟩ = some (.int .i64 M) := hg.cell q1 (fun e => by injection e with e; have : w.heap.size = g := e; omega)
  clear q1
  go_wp2_with fail
  refine (HR'.out _ (b0.other hg)).mono ?_
  intro e' w2 hpost
  unfold RNumsRead at hpost
  rw [Hm.out] at hpost
  obtain ⟨v2, rfl, ho2, hdd, hg2⟩ := hpost
  obtain ⟨A2, c2, rfl, _⟩ := own_form ho2
  have ho1 := kept_by ho hg2 (fun k hk => by have h1 := (ho.lt k hk).1; simp at h1; omega)
  have HO1 := Lib.hid (own_at ho1)
  have HO2 := Lib.hid (own_at ho2)
  have B := Lib.hid (b0.join (b0.keep hr hg2) hdd)
  have HX2 := Lib.hid ((HX.out.trans (ex_two hg)).trans (ex_two' hg2))
  clear hr hg hdd hg2 HN' HR' HX b0 q1' ho ho2 ho1
  go_wp2_with fail
  refine (num_any _ _).mono ?_
  rintro e' w' ⟨rfl, rfl⟩
  go_wp2_with fail
  go_loopg [28] P.length (fun kk i wr => ∃ (j n : Nat), i = .int .i64 (j : Int) ∧ Hid (j + kk = P.length) ∧ wr = w2.drewN n)
  case atStart => exact ⟨0, 0, rfl, Nat.zero_add _, rfl⟩
  case round =>
    obtain ⟨j, n, rfl, hj, rfl⟩ := hrel
    by_cases hlt : j < P.length
    · obtain ⟨a1, rfl, z1⟩ := HO1.out j _ (nv_get P j hlt)
      obtain ⟨a2, rfl, z2⟩ := HO2.out j _ (nv_get P j hlt)
      obtain ⟨y, hy⟩ : ∃ y, P[j] = y := ⟨_, rfl⟩
      rw [hy] at z1 z2
      clear hy
      go_wp2_with fail
      go_quiet (fail)
      go_wp2_with fail
      go_roundg (gk - 1)
      case measure => have := hj.out; omega
      case rel => exact ⟨j + 1, _, (by go_num), (by have := hj.out; show _ = _; omega), rfl⟩
    · go_wp2_with fail
      (try rw [Exit.noGoto_ret])
      go_ret
      exact ⟨rfl, _, B.out.below (Bl.drewN (Below.refl _ _) n), HX2.out.trans (Ex.drewN _ _ n)⟩
theorem step5_any (hM : I64 M) (hl : l.length ≤ 1073741824) :
    Calls Try.prog 31 #[.pointer (some ⟨g, 0, none⟩), .pointer (some ⟨gd, 0, none⟩), .agg #[.int .i64 5, .int .i64 M]] w (Stepped w g ad c gd A cA l) := by
  have hM2 := hM.2
  by_cases h0 : M < 0
  · exact step5_neg w g ad c gd A cA l pos b M h0
  · have h0' : 0 ≤ M := by omega
    cases hd : dec 0 0 (l.drop pos) with
    | none => exact step5_no w g ad c gd A cA l pos b M h0' 4 _ (fun W h => take1_fail W g ad c l pos h.r M 4 _ rfl (count_no W g ad c l pos h.r M h0' hd)) (fun W h => rrNums_no W gd A cA l pos h M hd)
    | some r =>
      obtain ⟨x, k⟩ := r
      by_cases h1 : M < (x : Int)
      · exact step5_no w g ad c gd A cA l pos b M h0' 3 _ (fun W h => take1_fail W g ad c l pos h.r M 3 _ rfl (count_long W g ad c l pos h.r M h0' hM2 hd h1)) (fun W h => rrNums_long W gd A cA l pos h M h0' hM2 hd h1)
      · cases hm : many dec1 x (l.drop (pos + k)) with
        | none =>
          refine step5_no w g ad c gd A cA l pos b M h0' 4 pos (fun W h => (take1_any W g ad c l pos h.r hl M hM2 hd (by omega)).mono fun e w' hp => ?_) (fun W h => (rrNums_any W gd A cA l pos h hl M hM2 hd (by omega)).mono fun e w' hp => ?_)
          · unfold NumsRead at hp
            rwa [hm] at hp
          · unfold RNumsRead at hp
            rwa [hm] at hp
        | some r =>
          obtain ⟨P, m⟩ := r
          exact step5_ok w g ad c gd A cA l pos b M h0' hM2 hl hd (by omega) hm (by have := many_len _ _ _ _ hm; rw [List.length_drop] at this; omega)
theorem step_any (K : Int) (hM : I64 M) (hl : l.length ≤ 1073741824) :
    Calls Try.prog 31 #[.pointer (some ⟨g, 0, none⟩), .pointer (some ⟨gd, 0, none⟩), .agg #[.int .i64 K, .int .i64 M]] w (Stepped w g ad c gd A cA l) := by
  by_cases h1 : K = 1
  · subst h1; exact step1_any w g ad c gd A cA l pos b M
  by_cases h2 : K = 2
  · subst h2; exact step2_any w g ad c gd A cA l pos b M
  by_cases h3 : K = 3
  · subst h3; exact step3_any w g ad c gd A cA l pos b M
  by_cases h4 : K = 4
  · subst h4; exact step4_any w g ad c gd A cA l pos b M hM hl
  by_cases h5 : K = 5
  · subst h5; exact step5_any w g ad c gd A cA l pos b M hM hl
  exact step0_any w g ad c gd A cA l pos b M K h1 h2 h3 h4 h5
end
end Go.Proofs.Ytemmdlanidepbaa
