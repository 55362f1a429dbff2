/- Contract of the law's step: bytes, and lists of numbers. -/
import Derived.Test.YtemmdlanidepbaaStep
namespace Go.Proofs.Ytemmdlanidepbaa
open Go.RowKit
set_option linter.unusedSimpArgs false

theorem conv_nil (u : World) : (convert 23 9 (.slice none 0 0)).run Try.prog u = .ok (.string ⟨#[]⟩) u :=
  run_convert_bytes_nil u 23 5 Try.underlying23 Try.underlying5 0 0 9 Try.underlying9

section
variable (w : World) (g : Nat) (ad : Addr) (c gd : Nat) (A : Option Addr) (cA : Nat) (l : List UInt8) (pos : Nat) (b : Both w g ad c gd A cA l pos) (M : Int)
include b
set_option maxRecDepth 100000 in
set_option maxHeartbeats 2000000 in
theorem step4_neg (hM : M < 0) :
    Calls Try.prog 31 #[.pointer (some ⟨g, 0, none⟩), .pointer (some ⟨gd, 0, none⟩), .agg #[.int .i64 4, .int .i64 M]] w (Stepped w g ad c gd A cA l) := by
  obtain ⟨b0, HX⟩ := b.stay (w1 := w) (.cells #[.int .i64 4, .int .i64 M] 64)
  have q1 : (w.alloc (.cells #[.int .i64 4, .int .i64 M] 64)).cell? ⟨w.heap.size, 1, none⟩ = some (.int .i64 M) := by simp
  have hlt := b.r.lt
  have hgs : ∀ k, some w.heap.size = some k → k ≠ g := fun k hk => by injection hk; omega
  go_enter Try.func31, Try.ntmps31
  go_wp2_with fail
  refine (rdBytes_neg _ _ _ _ _ _ b0.r M hM).mono ?_
  rintro e w1 ⟨rfl, hr, hg⟩
  have q1' : w1.cell? ⟨w.heap.size, 1, none⟩ = some (.int .i64 M) := hg.cell q1 (fun e => by injection e with e; have : w.heap.size = g := e; omega)
  have B := Lib.hid (b0.join hr (b0.other hg))
  have HX2 := Lib.hid (HX.out.trans (ex_two (gd := gd) hg))
  clear q1 hr hg HX b0 b
  go_wp2_with fail
  refine (num_any _ _).mono ?_
  rintro e' w' ⟨rfl, rfl⟩
  go_wp2_with fail
  go_ret
  exact ⟨rfl, _, B.out, HX2.out⟩
set_option maxRecDepth 100000 in
set_option maxHeartbeats 2000000 in
theorem step4_no (hM : 0 ≤ M) (e : Int) (p : Nat)
    (HN : ∀ W, Both W g ad c gd A cA l pos → Calls Try.prog 22 #[.pointer (some ⟨g, 0, none⟩), .int .i64 M] W (Rd2 W g ad c l p (.slice none 0 0) (.int .i64 e)))
    (HR : ∀ W, RRdr W gd A cA l pos → Calls Try.prog 43 #[.pointer (some ⟨gd, 0, none⟩), .int .i64 M] W (RRd2 W gd A cA l p (.slice none 0 0) (.int .i64 e))) :
    Calls Try.prog 31 #[.pointer (some ⟨g, 0, none⟩), .pointer (some ⟨gd, 0, none⟩), .agg #[.int .i64 4, .int .i64 M]] w (Stepped w g ad c gd A cA l) := by
  obtain ⟨b0, HX⟩ := b.stay (w1 := w) (.cells #[.int .i64 4, .int .i64 M] 64)
  have q1 : (w.alloc (.cells #[.int .i64 4, .int .i64 M] 64)).cell? ⟨w.heap.size, 1, none⟩ = some (.int .i64 M) := by simp
  have hlt := b.r.lt
  have hltd := b.d.lt
  have HN' := Lib.hid HN
  have HR' := Lib.hid HR
  have kn := conv_nil
  clear HN HR
  go_enter Try.func31, Try.ntmps31
  go_wp2_with fail
  refine (HN'.out _ b0).mono ?_
  rintro e' w1 ⟨rfl, hr, hg⟩
  have q1' : w1.cell? ⟨w.heap.size, 1, none⟩ = some (.int .i64 M) := hg.cell q1 (fun e => by injection e with e; have : w.heap.size = g := e; omega)
  clear q1
  go_wp2_with fail
  refine (HR'.out _ (b0.other hg)).mono ?_
  rintro e' w2 ⟨rfl, hdd, hg2⟩
  have B := Lib.hid (b0.join (b0.keep hr hg2) hdd)
  have HX2 := Lib.hid ((HX.out.trans (ex_two hg)).trans (ex_two' hg2))
  clear hr hg hdd hg2 HN' HR' HX b0 q1'
  go_wp2_with fail
  refine (num_any _ _).mono ?_
  rintro e' w' ⟨rfl, rfl⟩
  go_wp2_with fail
  refine (spoil_any (.slice none 0 0) [] _ _ (World.ownsRow_nil _ _ _ _) (by simp) (Nat.le_refl w2.heap.size)).mono ?_
  rintro e' w3 ⟨rfl, hg3⟩
  have hb3 : Below w2.heap.size w2 w3 := below_of_grown ⟨hg3.os, hg3.tape, hg3.output, hg3.size, hg3.block⟩
  have HX3 := Lib.hid (HX2.out.trans (Ex.below hb3))
  have B3 := Lib.hid (B.out.below hb3)
  clear hg3 hb3 HX2 B
  go_wp2_with fail
  go_ret
  exact ⟨rfl, _, B3.out, HX3.out⟩
set_option maxRecDepth 100000 in
set_option maxHeartbeats 2000000 in
theorem step4_ok (hM : 0 ≤ M) (hM2 : M ≤ 9223372036854775807) (hl : l.length ≤ 1073741824) {x k : Nat} (hd : dec 0 0 (l.drop pos) = some (x, k)) (hx : (x : Int) ≤ M) (hs : pos + k + x ≤ l.length) :
    Calls Try.prog 31 #[.pointer (some ⟨g, 0, none⟩), .pointer (some ⟨gd, 0, none⟩), .agg #[.int .i64 4, .int .i64 M]] w (Stepped w g ad c gd A cA l) := by
  obtain ⟨b0, HX⟩ := b.stay (w1 := w) (.cells #[.int .i64 4, .int .i64 M] 64)
  have q1 : (w.alloc (.cells #[.int .i64 4, .int .i64 M] 64)).cell? ⟨w.heap.size, 1, none⟩ = some (.int .i64 M) := by simp
  have hlt := b.r.lt
  have hltd := b.d.lt
  have hln : ((l.drop (pos + k)).take x).length ≤ 1073741824 := by rw [List.length_take, List.length_drop]; omega
  have HN' := Lib.hid (rdBytes_ok _ _ _ _ _ _ b0.r M hM2 hd hx hs)
  have HR' := Lib.hid (fun W (h : RRdr W gd A cA l pos) => rrBytes_ok W gd A cA l pos h M hM2 hd hx hs)
  obtain ⟨news, hnews⟩ : ∃ news, news = (l.drop (pos + k)).take x := ⟨_, rfl⟩
  obtain ⟨p, hp⟩ : ∃ p, p = pos + k + x := ⟨_, rfl⟩
  rw [← hnews] at hln HN' HR'
  rw [← hp] at HN' HR'
  clear hnews hp hs hd hx
  go_enter Try.func31, Try.ntmps31
  go_wp2_with fail
  refine HN'.out.mono ?_
  rintro e' w1 ⟨vb, vc, rfl, ho, hr, hg⟩
  have q1' : w1.cell? ⟨w.heap.size, 1, none⟩ = some (.int .i64 M) := hg.cell q1 (fun e => by injection e with e; have : w.heap.size = g := e; omega)
  clear q1
  have Hvb : w.heap.size < vb ∧ vb < w1.heap.size := by have h1 := ho.lt vb rfl; simp at h1; omega
  go_wp2_with fail
  refine (HR'.out _ (b0.other hg)).mono ?_
  rintro e' w2 ⟨v2, rfl, ho2, hdd, hg2⟩
  obtain ⟨A2, c2, rfl, _⟩ := own_form ho2
  have ho1 := kept_by ho hg2 (fun k hk => by injection hk with hk; subst hk; show vb ≠ gd; omega)
  have k1 := own_conv ho1
  have k2 := own_conv ho2
  have HO1 := Lib.hid ho1
  have B := Lib.hid (b0.join (b0.keep hr hg2) hdd)
  have HX2 := Lib.hid ((HX.out.trans (ex_two hg)).trans (ex_two' hg2))
  clear hr hg hdd hg2 HN' HR' HX b0 q1' ho ho2 ho1
  go_wp2_with fail
  refine (num_any _ _).mono ?_
  rintro e' w' ⟨rfl, rfl⟩
  go_wp2_with fail
  clear k1 k2
  refine (spoil_any _ news _ _ HO1.out (by omega) (by have h1 := HO1.out.lt vb rfl; omega)).mono ?_
  rintro e' w3 ⟨rfl, hg3⟩
  replace hg3 : w2.grownBy w3 (some vb) := hg3
  have HX3 := Lib.hid (ex_new HX2.out hg3 (Nat.le_of_lt Hvb.1))
  have B3 := Lib.hid (b.off B.out hg3 (Nat.le_of_lt Hvb.1))
  clear hg3 HX2 B HO1
  go_wp2_with fail
  go_ret
  exact ⟨rfl, _, B3.out, HX3.out⟩
theorem step4_any (hM : I64 M) (hl : l.length ≤ 1073741824) :
    Calls Try.prog 31 #[.pointer (some ⟨g, 0, none⟩), .pointer (some ⟨gd, 0, none⟩), .agg #[.int .i64 4, .int .i64 M]] w (Stepped w g ad c gd A cA l) := by
  have hM2 := hM.2
  by_cases h0 : M < 0
  · exact step4_neg w g ad c gd A cA l pos b M h0
  · have h0' : 0 ≤ M := by omega
    cases hd : dec 0 0 (l.drop pos) with
    | none => exact step4_no w g ad c gd A cA l pos b M h0' 4 _ (fun W h => rdBytes_no W g ad c l pos h.r M h0' hd) (fun W h => rrBytes_no W gd A cA l pos h M hd)
    | some r =>
      obtain ⟨x, k⟩ := r
      by_cases h1 : M < (x : Int)
      · exact step4_no w g ad c gd A cA l pos b M h0' 3 _ (fun W h => rdBytes_long W g ad c l pos h.r M h0' hM2 hd h1) (fun W h => rrBytes_long W gd A cA l pos h M h0' hM2 hd h1)
      · by_cases h2 : l.length < pos + k + x
        · exact step4_no w g ad c gd A cA l pos b M h0' 4 _ (fun W h => rdBytes_short W g ad c l pos h.r M hM2 hd (by omega) h2) (fun W h => rrBytes_short W gd A cA l pos h M hM2 hd (by omega) h2)
        · exact step4_ok w g ad c gd A cA l pos b M h0' hM2 hl hd (by omega) (by omega)
end
end Go.Proofs.Ytemmdlanidepbaa
