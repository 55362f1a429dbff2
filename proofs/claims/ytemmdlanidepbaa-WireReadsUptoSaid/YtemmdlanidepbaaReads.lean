/- The law WireReads's walk. -/
import Derived.Test.YtemmdlanidepbaaStep5
namespace Go.Proofs.Ytemmdlanidepbaa
open Go.RowKit
set_option linter.unusedSimpArgs false

/-- the calls of a script as cells -/
def ov (K : List (Int × Int)) : List Value := K.flatMap fun p => [.int .i64 p.1, .int .i64 p.2]
theorem ov_len : ∀ (P : List (Int × Int)), (ov P).length = P.length * 2
  | [] => rfl
  | p :: P => by
    have := ov_len P
    have e : ov (p :: P) = [.int .i64 p.1, .int .i64 p.2] ++ ov P := rfl
    rw [e, List.length_append, this, List.length_cons]
    simp
    omega
theorem ov_get : ∀ (P : List (Int × Int)) (j : Nat) (hj : j < P.length), (ov P)[2 * j]? = some (.int .i64 (P[j]).1) ∧ (ov P)[2 * j + 1]? = some (.int .i64 (P[j]).2)
  | p :: P, 0, _ => ⟨rfl, rfl⟩
  | p :: P, j + 1, hj => ov_get P j (by simpa using hj)
theorem op_at {w : World} {A : Option Addr} {P : List (Int × Int)} (hA : At w A (ov P)) {j : Nat} (hj : j < P.length) {a b : Int} (hp : P[j] = (a, b)) :
    ∃ ad, A = some ad ∧ w.cell? (ad.add (j * 2)) = some (.int .i64 a) ∧ w.cell? { block := (ad.add (j * 2)).block, off := (ad.add (j * 2)).off + 1, spot := none } = some (.int .i64 b) := by
  obtain ⟨z0, z1⟩ := ov_get P j hj
  rw [hp] at z0 z1
  obtain ⟨ad, rfl, q0⟩ := hA _ _ z0
  obtain ⟨ad', e, q1⟩ := hA _ _ z1
  injection e with e
  subst e
  refine ⟨ad, rfl, by rw [Nat.mul_comm]; exact q0, ?_⟩
  have e : (ad.add (j * 2)).add 1 = ad.add (2 * j + 1) := by rw [add_add, Nat.mul_comm]
  rw [← e] at q1
  exact q1
theorem pre_at {w : World} {A : Option Addr} {l m : List UInt8} (h : At w A (bv (l ++ m))) : At w A (bv l) := fun j u hj => by
  refine h j u ?_
  rw [bv_app, List.getElem?_append_left (List.getElem?_eq_some_iff.1 hj).1]
  exact hj
theorem Bl.ex {w0 w w1 : World} {T : Nat → Prop} (h : Below w0.heap.size w0 w) (hx : Ex T w w1) (hT : ∀ k, T k → w0.heap.size ≤ k) : Below w0.heap.size w0 w1 :=
  ⟨hx.os.trans h.os, hx.tape.trans h.tape, hx.output.trans h.output, Nat.le_trans h.size hx.size, fun k hk => (hx.block k (Nat.lt_of_lt_of_le hk h.size) (fun t => by have := hT k t; omega)).trans (h.block k hk)⟩
/-- a new reader of the document's -/
theorem refdr_new {w : World} {A : Option Addr} {c : Nat} {l : List UInt8} (hA : At w A (bv l)) (hl : l.length ≤ 1073741824) (hc : l.length ≤ c) (hlt : ∀ ad, A = some ad → ad.block < w.heap.size) :
    RRdr (w.alloc (.cells #[.slice A l.length c, .int .i64 0] 61)) w.heap.size A c l 0 :=
  ⟨heap_alloc_new _ _, hA.mono ((Below.refl _ _).alloc (Nat.le_refl _) _), Nat.zero_le _, by omega, hc, fun ad e => by have := hlt ad e; omega⟩
theorem end_left (l : List UInt8) (pos : Nat) : (endE l pos == 0) = (((l.length - pos : Nat) : Int) == 0) := by
  unfold endE
  by_cases h : pos < l.length
  · rw [if_pos h]
    have : (((l.length - pos : Nat) : Int) == 0) = false := by simp; omega
    rw [this]
    rfl
  · rw [if_neg h, show l.length - pos = 0 by omega]
    rfl

/-- a new reader over these bytes; its bytes lie in a block that is there -/
theorem open_two (A : Option Addr) (c : Nat) (l : List UInt8) (w : World) (hA : At w A (bv l)) (hl : l.length ≤ 140737488355320) :
    Calls Try.prog 19 #[.slice A l.length c] w (fun e w' => ∃ g ad c', e = .returned (.pointer (some ⟨g, 0, none⟩)) ∧ Rdr w' g ad c' l 0 ∧ w.heap.size ≤ g ∧ w.heap.size ≤ ad.block ∧ ad.block < w'.heap.size ∧ Below w.heap.size w w') := by
  obtain ⟨i0, hi, hz0, hz1, hz2⟩ := info_parts infoU8
  go_enter Try.func19, Try.ntmps19
  go_wp2_with (first | (at_make; refine wpList_make_own w rfl _ _ 23 rfl w.heap.size 5 i0 (.int .u8 0) 1 Try.underlying23 hi hz0 hz1 .i64 .i64 _ (l.length + 1) rfl rfl (by omega) (by rw [hz2]; omega) (by simp only [maxLen]; omega) (Nat.le_refl _) ?_; intro w1 ho1 hg1) | (at_builtin; refine app_rows w1 rfl _ _ 23 rfl w.heap.size 5 (.int .u8 0) 1 1 Try.underlying23 infoU8 rfl (by omega) (.slice (some ⟨w.heap.size, 0, none⟩) 0 (l.length + 1)) 0 [] rfl ho1 A l.length c (bv l) rfl (by simp [bv_len]) (hA.mono (below_of_grown hg1)) (bv_one _) (by simp only [maxLen]; omega) (by omega) hg1.size ?_; intro v' w2 ho2 hg2 hv2; obtain ⟨g, cc, rfl⟩ := own_some ho2 (isSome_of rfl hv2); have hb2 := Lib.hid (Bl.grown (below_of_grown hg1) hg2 (fun k hk => (ho1.lt k hk).1)); clear hg2 hv2 hg1 ho1; have Ho := Lib.hid ho2; clear ho2))
  go_ret
  have ho := Ho.out
  have hb := hb2.out
  have hlt := ho.lt g rfl
  simp only [Nat.zero_add, List.nil_append] at ho ⊢
  have hA := own_at ho
  obtain ⟨A', c1, e1, hc⟩ := own_form ho
  injection e1 with e1 _ e2
  subst e1
  subst e2
  exact ⟨w2.heap.size, ⟨g, 0, none⟩, cc, rfl, ⟨heap_alloc_new _ _, hA.mono ((Below.refl _ _).alloc (Nat.le_refl _) _), Nat.zero_le _, by omega, hc, by show g ≠ _; omega⟩, hb.size, hlt.1, by simp; omega, hb.alloc hb.size _⟩
theorem cut_bytes (w : World) (g n c k : Nat) (h : k ≤ c) : (Instr.slice 23 (.slice (some ⟨g, 0, none⟩) n c) none (some (.int .i64 (k : Int))) none).run Try.prog w = .ok (.slice (some ⟨g, 0, none⟩) k c) w := by
  rw [run_slice_h w 23 _ n c (by kernel_rfl) .i64 (k : Int) (by omega) (by omega)]
  rw [show (sizeOf (Try.prog.elem 23)).run Try.prog w = .ok 1 w by kernel_rfl]
  simp only [Result.andThen, sliced, Int.toNat_natCast, Nat.sub_zero, Nat.zero_mul]
  congr 2
  split <;> rfl

set_option maxRecDepth 100000 in
set_option maxHeartbeats 8000000 in
theorem wireReads_walk (w : World) (A : Option Addr) (c : Nat) (l : List UInt8) (hA : At w A (bv l)) (hl : l.length ≤ 1048576) (hc : l.length ≤ c) (hlt : ∀ ad, A = some ad → ad.block < w.heap.size)
    (A2 : Option Addr) (c2 : Nat) (K : List (Int × Int)) (hA2 : At w A2 (ov K)) (hK : ∀ p ∈ K, I64 p.2) (hn : K.length ≤ 1048576) :
    Calls Try.prog 6 #[.slice A l.length c, .slice A2 K.length c2] w (fun e w' => e = .returned (.bool true) ∧ Below w.heap.size w w') := by
  go_enter Try.func6, Try.ntmps6
  go_wp2_with (at_builtin; refine stop_to ?_)
  refine Lib.hid ?_
  refine app_rows w rfl _ _ 23 rfl w.heap.size 5 (.int .u8 0) 1 1 Try.underlying23 infoU8 rfl (by omega) (.slice none 0 0) 0 [] rfl (World.ownsRow_nil _ _ _ _) A l.length c (bv l) rfl (by simp [bv_len]) hA (bv_one _) (by simp only [maxLen]; omega) (by omega) (Nat.le_refl _) ?_
  intro v1 w1 ho1 hg1 hv1
  rw [Nat.zero_add, List.nil_append] at ho1
  have hB1 : Below w.heap.size w w1 := Bl.grown (Below.refl _ _) hg1 (fun k hk => by cases hk)
  clear hv1 hg1
  go_wp2_with (at_builtin; refine app_byte rfl _ _ 23 rfl w.heap.size 5 Try.underlying23 infoU8 v1 l rfl ho1 _ 165 rfl rfl (by omega) hB1.size ?_; intro v2 w2 ho2 hg2 hv2)
  have HB2 := Lib.hid (Bl.grown hB1 hg2 (fun k hk => (ho1.lt k hk).1))
  clear hg2 hv2 ho1 hB1
  obtain ⟨g0, c0, rfl⟩ := own_pos ho2 (by simp)
  have hc0 : l.length + 1 ≤ c0 := by
    obtain ⟨_, _, e, hle⟩ := own_form ho2
    injection e with _ _ e
    simp at hle
    omega
  have hlc : l.length ≤ c0 := by omega
  have HO2 := Lib.hid ho2
  have Hg0 : w.heap.size ≤ g0 ∧ g0 < w2.heap.size := ho2.lt g0 rfl
  clear ho2
  obtain ⟨lm, hlm⟩ : ∃ lm, lm = l ++ [165] := ⟨_, rfl⟩
  have hll : lm.length = l.length + 1 := by rw [hlm]; simp
  have HLM := Lib.hid hlm
  rw [← hlm] at HO2 ⊢
  rw [hll] at HO2 ⊢
  clear hlm
  go_wp2_with fail
  rw [cut_bytes _ _ _ _ _ hlc]
  go_wp2_with fail
  have HAm : At w2 (some ⟨g0, 0, none⟩) (bv l) := pre_at (by rw [← HLM.out]; exact own_at HO2.out)
  refine (open_two (some ⟨g0, 0, none⟩) c0 l _ HAm (by omega)).mono ?_
  rintro e w3 ⟨g, ad, cr, rfl, hr3, hge, hge2, hge3, hb3⟩
  have HB3 := Lib.hid (Bl.step HB2.out hb3)
  have HO3 := own_below HO2.out hb3
  rw [← hll] at HO3
  have HOm := Lib.hid HO3
  have k1 := own_conv HO3
  rw [hll] at k1
  have k2 := run_conv (c := c) (hA.mono HB3.out)
  have Gg : g0 < g := by omega
  have Gad : g0 < ad.block := by omega
  have Hr3 := Lib.hid hr3
  have hbig : ¬ 9223372036854775807 < l.length + 1 := by omega
  have hcat : (⟨l.toArray⟩ : ByteArray) ++ ⟨#[165]⟩ = ⟨lm.toArray⟩ := by
    rw [HLM.out]
    apply ByteArray.ext
    simp
  have Gad2 : w.heap.size ≤ ad.block := by omega
  clear HAm HB2 HO2 hb3 HO3 hr3 hge hge2
  go_wp2_with fail
  clear k1 k2 hbig hcat
  have hs := spoil_any (.slice (some ⟨g0, 0, none⟩) lm.length c0) lm w3 w.heap.size HOm.out (by omega) HB3.out.size
  rw [hll] at hs
  refine hs.mono ?_
  clear hs
  rintro e w4 ⟨rfl, hg4⟩
  replace hg4 : w3.grownBy w4 (some g0) := hg4
  have HB4 := Lib.hid (Bl.grown HB3.out hg4 (fun k hk => by have e : g0 = k := Option.some.inj hk; omega))
  have hr4 := Hr3.out.move hg4 (fun e => by injection e; omega) (fun e => by injection e; omega)
  have hs4 : ad.block < w4.heap.size := Nat.lt_of_lt_of_le hge3 hg4.size
  clear hg4 HOm HB3 Hr3 hge3
  go_wp2_with fail
  have hb5 := (Below.refl w4.heap.size w4).alloc (Nat.le_refl _) (.cells #[.slice A l.length c, .int .i64 0] 61)
  have hd5 := refdr_new (c := c) (hA.mono HB4.out) (by omega) hc (fun ad e => Nat.lt_of_lt_of_le (hlt ad e) HB4.out.size)
  have B5 := Lib.hid (Both.mk (hr4.below hb5) hd5 (Nat.ne_of_lt hr4.lt) (Nat.ne_of_lt hs4) (fun a ha => by have := hlt a ha; omega))
  have HB5 := Lib.hid (Bl.step HB4.out hb5)
  have Hgd : w.heap.size ≤ w4.heap.size := HB4.out.size
  clear hr4 hs4 hd5 hb5 HB4
  generalize w4.alloc (.cells #[.slice A l.length c, .int .i64 0] 61) = w5 at *
  generalize w4.heap.size = gd at *
  go_loopg [8] K.length (fun kk i wr => ∃ (j pos : Nat), i = .int .i64 (j : Int) ∧ Hid (j + kk = K.length) ∧ Hid (Both wr g ad cr gd A c l pos) ∧ Hid (Ex (fun k => k = g ∨ k = gd) w5 wr))
  case atStart => exact ⟨0, 0, rfl, Nat.zero_add _, B5, Ex.refl _ _⟩
  case round =>
    clear B5
    obtain ⟨j, pos, rfl, hj, B, HX⟩ := hrel
    have HBr := Lib.hid (Bl.ex HB5.out HX.out (fun k hk => by rcases hk with rfl | rfl <;> omega))
    by_cases hjl : j < K.length
    · by_cases h300 : j < 300
      · obtain ⟨⟨k, M⟩, hp⟩ : ∃ p, K[j] = p := ⟨_, rfl⟩
        have hM := hK _ (List.getElem_mem hjl)
        rw [hp] at hM
        obtain ⟨aa, rfl, q0, q1⟩ := op_at (hA2.mono HBr.out) hjl hp
        go_wp2_with fail
        refine (step_any wr g ad cr gd A c l pos B.out M k hM (by omega)).mono ?_
        rintro e w6 ⟨rfl, pos', B6, hx6⟩
        have BB := Lib.hid B6
        have HX6 := Lib.hid (HX.out.trans hx6)
        clear q0 q1 B6 hx6 B HX HBr
        go_wp2_with fail
        refine (left_yes _ _ _ _ _ _ BB.out.r).mono ?_
        rintro e w' ⟨rfl, n1, rfl⟩
        go_wp2_with fail
        refine (refLeft _ _ _ _ _ _ (BB.out.d.drewN n1)).mono ?_
        rintro e w' ⟨rfl, n2, rfl⟩
        go_wp2_with fail
        refine (end_yes _ _ _ _ _ _ (BB.out.r.drewN (n1 + n2))).mono ?_
        rintro e w' ⟨rfl, n3, rfl⟩
        go_wp2_with fail
        refine (num_any _ _).mono ?_
        rintro e w' ⟨rfl, rfl⟩
        have HE := end_left l pos'
        go_wp2_with fail
        refine (refLeft _ _ _ _ _ _ (BB.out.d.drewN (n1 + n2 + n3))).mono ?_
        rintro e w' ⟨rfl, n4, rfl⟩
        go_wp2_with fail
        go_roundg (gk - 1)
        case measure => have := hj.out; omega
        case rel => exact ⟨j + 1, pos', (by go_num), (by have := hj.out; show _ = _; omega), BB.out.below (Bl.drewN (Below.refl _ _) _), HX6.out.trans (Ex.drewN _ _ _)⟩
      · go_wp2_with fail
        refine (known_any _).mono ?_
        rintro e w18 ⟨rfl, hb18⟩
        have HB18 := Lib.hid (Bl.step HBr.out hb18)
        clear hb18 HBr HX B
        go_wp2_with fail
        go_ret
        exact ⟨rfl, HB18.out⟩
    · go_wp2_with fail
      refine (known_any _).mono ?_
      rintro e w18 ⟨rfl, hb18⟩
      have HB18 := Lib.hid (Bl.step HBr.out hb18)
      clear hb18 HBr HX B
      go_wp2_with fail
      go_ret
      exact ⟨rfl, HB18.out⟩
end Go.Proofs.Ytemmdlanidepbaa
