/- The walk of MessageDatagrams. -/
import Derived.Test.YtemmdlanidepbaaDoorDgRef2
import Derived.Test.YtemmdlanidepbaaDoorKnown18
namespace Go.Proofs.YtemmdlanidepbaaDoor
open Go.RowKit
set_option linter.unusedSimpArgs false
set_option maxRecDepth 100000

theorem stop_toD {P : Program} {ops : Array Oper} {rest : List Oper} {o : Oper} {a : Act} {w : World} {Q : Exit → Act → World → Prop} (h : Hid (wpList P ops Q (o :: rest) a w)) : wpList P ops Q (o :: rest) a w := h
theorem pre_atD {w : World} {A : Option Addr} {l m : List UInt8} (h : At w A (bv (l ++ m))) : At w A (bv l) := fun j u hj => h j u (by
  rw [bv_app, List.getElem?_append_left (List.getElem?_eq_some_iff.1 hj).1]
  exact hj)
set_option maxHeartbeats 4000000 in
/-- one and the same datagram, its bytes twice -/
theorem sameD_any (d : Dg) (A1 A2 : Option Addr) (c1 c2 : Nat) (w : World) (h1 : At w A1 (bv d.body)) (h2 : At w A2 (bv d.body)) : Calls Tryd.prog 26 #[.agg (dcells d A1 c1), .agg (dcells d A2 c2)] w (OkD w true) := by
  have hb : Below w.heap.size w ((w.alloc (.cells (dcells d A1 c1) 53)).alloc (.cells (dcells d A2 c2) 53)) := ((Below.refl _ _).alloc (Nat.le_refl _) _).alloc (by simp) _
  have k1 := convert_at _ A1 c1 _ (h1.mono hb)
  have k2 := convert_at _ A2 c2 _ (h2.mono hb)
  have HB := Lib.hid hb
  clear hb
  unfold dcells at *
  go_enter Tryd.func26, Tryd.ntmps26
  go_wp2_with fail
  go_ret
  exact ⟨rfl, HB.out⟩
theorem store_dg_new {ops : Array Oper} {rest : List Oper} {o : Oper} {a : Act} {w : World} {Q : Exit → Act → World → Prop} {cs : Array Value} (hs : cs.size = 6) (hall : cs.all (·.oneCell') = true) (hgd : o.guard = none) (x y : Operand) (ho : o.op = .store 53 x y) (hx : a.eval x = .pointer (some ⟨w.heap.size, 0, none⟩)) (hy : a.eval y = .agg cs)
    (h : wpList Tryd.prog ops Q rest (a.put o.dst undef) (w.alloc (.cells cs 53))) : wpList Tryd.prog ops Q (o :: rest) a (w.alloc (.cells #[.int .i64 0, .int .i64 0, .int .i64 0, .int .i64 0, .int .i64 0, .slice none 0 0] 53)) := by
  refine store_dg (old := #[.int .i64 0, .int .i64 0, .int .i64 0, .int .i64 0, .int .i64 0, .slice none 0 0]) hs rfl hall hgd x y ho w.heap.size hx hy (heap_alloc_new w _) ?_
  rw [World.setRow_alloc_new]
  exact h
section
variable (w : World) (d : Dg) (A : Option Addr) (c : Nat) (hA : At w A (bv d.body)) (A2 : Option Addr) (c2 : Nat) (l : List UInt8) (hA2 : At w A2 (bv l)) (hc2 : l.length ≤ c2) (hlt2 : ∀ ad, A2 = some ad → ad.block < w.heap.size)
include hA hA2 hc2 hlt2
set_option maxHeartbeats 16000000 in
theorem dgrams_main (hl : l.length ≤ 9000) (hdl : d.body.length ≤ 9000) :
    Calls Tryd.prog 6 #[.agg (dcells d A c), .slice A2 l.length c2] w (fun e w' => e = .returned (.bool true) ∧ Below w.heap.size w w') := by
  have hl9 : ¬ 9000 < l.length := by omega
  have hd9 : ¬ 9000 < d.body.length := by omega
  have hb1 : Below w.heap.size w (w.alloc (.cells (dcells d A c) 53)) := (Below.refl _ _).alloc (Nat.le_refl _) _
  have hx1 := heap_alloc_new w (.cells (dcells d A c) 53)
  obtain ⟨q0, q1, q2, q3, q4, q5⟩ := dg_cells hx1
  have HX1 := Lib.hid hx1
  have HB1 := Lib.hid hb1
  have HAD1 := Lib.hid (hA.mono hb1)
  have HA21 := Lib.hid (hA2.mono hb1)
  have HLT := Lib.hid hlt2
  have HADL : Hid (∀ u, Below w.heap.size w u → At u A (bv d.body)) := Lib.hid (fun u hu => hA.mono hu)
  have HC2 := Lib.hid hc2
  have HS := Lib.hid (dcells_size d A c)
  have HDA := Lib.hid (dcells_all d A c)
  have HMP := Lib.hid (fun u => mayD_walk d A c u (by omega))
  have HMR := Lib.hid (fun u => refMayD_walk d A c u (by omega))
  have HPN : Hid (mayD d = false → ∀ u, Calls Tryd.prog 27 #[.agg (dcells d A c)] u (fun e w' => e = .returned (.tuple #[.slice none 0 0, .int .i64 2]) ∧ Below u.heap.size u w')) := Lib.hid (fun h u => putD_no d A c u HMP.out h)
  have HPY : Hid (mayD d = true → ∀ u, At u A (bv d.body) → Calls Tryd.prog 27 #[.agg (dcells d A c)] u (PutRow u (putD d))) := Lib.hid (fun h u hu => putD_yes d A c u HMP.out h hu)
  have HRY : Hid (mayD d = true → ∀ u, At u A (bv d.body) → Calls Tryd.prog 29 #[.agg (dcells d A c)] u (NewRow u (putD d))) := Lib.hid (fun h u hu => refPutD_yes d A c u h hu)
  have HSD : Hid (∀ u A1 c1, At u A1 (bv d.body) → At u A (bv d.body) → Calls Tryd.prog 26 #[.agg (dcells d A1 c1), .agg (dcells d A c)] u (OkD u true)) := Lib.hid (fun u A1 c1 h1 h2 => sameD_any d A1 A c1 c u h1 h2)
  clear hx1 hb1 q0 q1 q2 q3 q4 hA hlt2 hc2 hA2
  obtain ⟨dc, hdc⟩ : ∃ dc, dc = dcells d A c := ⟨_, rfl⟩
  rw [← hdc] at HX1 HB1 HAD1 HA21 HS HDA HMP HMR HPN HPY HRY HSD q5 ⊢
  clear hdc
  go_enter Tryd.func6, Tryd.ntmps6
  go_upto_region 3 with (fail)
  generalize w.alloc (.cells dc 53) = w1 at *
  have hx1l := (Array.getElem?_eq_some_iff.1 HX1.out).1
  go_wp2_with (at_builtin; refine stop_toD ?_)
  refine Lib.hid ?_
  refine app_rows w1 rfl _ _ 28 rfl w1.heap.size 5 (.int .u8 0) 1 1 Tryd.underlying28 infoU8 rfl (by omega) (.slice none 0 0) 0 [] rfl (World.ownsRow_nil _ _ _ _) A2 l.length c2 (bv l) rfl (by simp [bv_len]) HA21.out (bv_one _) (by simp only [maxLen]; omega) (by omega) (Nat.le_refl _) ?_
  intro v1 v2 ho1 hg1 hv1
  rw [Nat.zero_add, List.nil_append] at ho1
  have hB1 : Below w1.heap.size w1 v2 := Bl.grown (Below.refl _ _) hg1 (fun k hk => by cases hk)
  clear hv1 hg1 q5
  go_wp2_with (at_builtin; refine app_byte rfl _ _ 28 rfl w1.heap.size 5 Tryd.underlying28 infoU8 v1 l rfl ho1 _ 119 rfl rfl (by omega) hB1.size ?_; intro v3 w2 ho2 hg2 hv2)
  have HBW := Lib.hid (Bl.grown hB1 hg2 (fun k hk => (ho1.lt k hk).1))
  have HB2 := Lib.hid (Bl.step HB1.out HBW.out)
  have HX2 := Lib.hid ((HBW.out.block _ hx1l).trans HX1.out)
  have HAD2 := Lib.hid (HAD1.out.mono HBW.out)
  have HA22 := Lib.hid (HA21.out.mono HBW.out)
  clear hg2 hv2 ho1 hB1
  obtain ⟨g0, c0, rfl⟩ := own_pos ho2 (by simp)
  have hc0 : l.length + 1 ≤ c0 := by
    obtain ⟨_, _, e, hle⟩ := own_form ho2
    injection e with _ _ e
    simp at hle
    omega
  have hlc : l.length ≤ c0 := by omega
  have HO2 := Lib.hid ho2
  have hg0 : w1.heap.size ≤ g0 ∧ g0 < w2.heap.size := ho2.lt g0 rfl
  clear ho2 HBW HB1 HX1 HAD1 HA21
  obtain ⟨lm, hlm⟩ : ∃ lm, lm = l ++ [119] := ⟨_, rfl⟩
  have hll : lm.length = l.length + 1 := by rw [hlm]; simp
  have HLM := Lib.hid hlm
  rw [← hlm] at HO2 ⊢
  rw [hll] at HO2 ⊢
  clear hlm
  have hw1 : w.heap.size < w1.heap.size := hx1l
  generalize w1.heap.size = base at *
  go_wp2_with fail
  rw [cut_bytes _ _ _ _ _ hlc]
  go_wp2_with fail
  have HAm : At w2 (some ⟨g0, 0, none⟩) (bv l) := pre_atD (by rw [← HLM.out]; exact own_at HO2.out)
  refine (msg_readD (some ⟨g0, 0, none⟩) c0 l _ HAm (by omega)).mono ?_
  rintro e w3 ⟨Ax, cx, rfl, hAx, hfx, hb3⟩
  have HFX := Lib.hid (show ∀ ad, Ax = some ad → g0 < ad.block from fun ad e => Nat.lt_of_lt_of_le hg0.2 (hfx.out ad e))
  have HO3 := Lib.hid (own_below HO2.out hb3)
  have HB3 := Lib.hid (Bl.step HB2.out hb3)
  have HX3 := Lib.hid ((hb3.block _ (Array.getElem?_eq_some_iff.1 HX2.out).1).trans HX2.out)
  have HAD3 := Lib.hid (HAD2.out.mono hb3)
  have HA23 := Lib.hid (HA22.out.mono hb3)
  have HAX3 := Lib.hid hAx
  have hs3 := hb3.size
  clear hAx hfx hb3 HAm HB2 HX2 HAD2 HA22 HO2
  have HRR := Lib.hid (fun (u : World) (h1 : At u A2 (bv l)) (h2 : ∀ ad, A2 = some ad → ad.block < u.heap.size) => ref_readD A2 c2 l u h1 (by omega) HC2.out h2)
  obtain ⟨ans, hans⟩ : ∃ ans, ans = answerD l := ⟨_, rfl⟩
  rw [← hans] at HRR HAX3 ⊢
  clear hans
  obtain ⟨x, er⟩ := ans
  dsimp only at HAX3 ⊢
  go_upto_region 5 with (refine store_dg_new (dcells_size x Ax cx) (dcells_all _ _ _) rfl (.tmp 6) (.tmp 35) rfl rfl rfl ?_)
  have hba := (Below.refl w3.heap.size w3).alloc (Nat.le_refl _) (.cells (dcells x Ax cx) 53)
  have HO4 := Lib.hid (own_below HO3.out hba)
  have HB4 := Lib.hid (Bl.step HB3.out hba)
  have HX4 := Lib.hid ((hba.block _ (Array.getElem?_eq_some_iff.1 HX3.out).1).trans HX3.out)
  have HAD4 := Lib.hid (HAD3.out.mono hba)
  have HA24 := Lib.hid (HA23.out.mono hba)
  have HAX4 := Lib.hid (HAX3.out.mono hba)
  have HY4 := Lib.hid (heap_alloc_new w3 (.cells (dcells x Ax cx) 53))
  have hg3 : g0 < w3.heap.size := by omega
  have hs4 : w3.heap.size < (w3.alloc (.cells (dcells x Ax cx) 53)).heap.size := by simp
  clear hba HO3 HB3 HX3 HAD3 HA23 HAX3
  generalize w3.alloc (.cells (dcells x Ax cx) 53) = w4 at *
  generalize w3.heap.size = b6 at *
  go_wp2_with fail
  refine (HRR.out w4 HA24.out (fun ad e => Nat.lt_of_lt_of_le (HLT.out ad e) HB4.out.size)).mono ?_
  rintro e w5 ⟨Ay, cy, rfl, hAy, hfy, hb5⟩
  dsimp only at hAy ⊢
  have HFY := Lib.hid (show ∀ ad, Ay = some ad → g0 < ad.block from fun ad e => by have := hfy.out ad e; omega)
  have HO5 := Lib.hid (own_below HO4.out hb5)
  have HB5 := Lib.hid (Bl.step HB4.out hb5)
  have HX5 := Lib.hid ((hb5.block _ (Array.getElem?_eq_some_iff.1 HX4.out).1).trans HX4.out)
  have HY5 := Lib.hid ((hb5.block _ (Array.getElem?_eq_some_iff.1 HY4.out).1).trans HY4.out)
  have HAD5 := Lib.hid (HAD4.out.mono hb5)
  have HA25 := Lib.hid (HA24.out.mono hb5)
  have HAX5 := Lib.hid (HAX4.out.mono hb5)
  have HAY5 := Lib.hid hAy
  have hs5 := hb5.size
  clear hAy hfy hb5 HRR HO4 HB4 HX4 HAD4 HA24 HAX4 HY4
  go_upto_region 6 with (refine store_dg_new (dcells_size x Ay cy) (dcells_all _ _ _) rfl (.tmp 8) (.tmp 40) rfl rfl rfl ?_)
  have hba := (Below.refl w5.heap.size w5).alloc (Nat.le_refl _) (.cells (dcells x Ay cy) 53)
  have HO6 := Lib.hid (own_below HO5.out hba)
  have HB6 := Lib.hid (Bl.step HB5.out hba)
  have HX6 := Lib.hid ((hba.block _ (Array.getElem?_eq_some_iff.1 HX5.out).1).trans HX5.out)
  have HY6 := Lib.hid ((hba.block _ (Array.getElem?_eq_some_iff.1 HY5.out).1).trans HY5.out)
  have HAD6 := Lib.hid (HAD5.out.mono hba)
  have HA26 := Lib.hid (HA25.out.mono hba)
  have HAX6 := Lib.hid (HAX5.out.mono hba)
  have HAY6 := Lib.hid (HAY5.out.mono hba)
  have HV6 := Lib.hid (heap_alloc_new w5 (.cells (dcells x Ay cy) 53))
  have hs6 : w5.heap.size < (w5.alloc (.cells (dcells x Ay cy) 53)).heap.size := by simp
  clear hba HO5 HB5 HX5 HAD5 HA25 HAX5 HAY5 HY5
  generalize w5.alloc (.cells (dcells x Ay cy) 53) = w6 at *
  have hb8 : g0 < w5.heap.size := by omega
  have hb68 : b6 ≠ g0 := by omega
  generalize w5.heap.size = b8 at *
  have hO6 := HO6.out
  rw [← hll] at hO6
  have k1 := convert_at w6 _ c0 lm (own_at hO6)
  rw [hll] at k1
  have k2 := convert_at w6 A2 c2 l HA26.out
  have hbig : ¬ 9223372036854775807 < l.length + 1 := by omega
  have hcat : (⟨l.toArray⟩ : ByteArray) ++ ⟨#[119]⟩ = ⟨lm.toArray⟩ := by
    rw [HLM.out]
    apply ByteArray.ext
    simp
  have HO6' := Lib.hid hO6
  clear hO6 HO6
  go_wp2_with fail
  clear k1 k2 hcat hbig
  go_loopg [10] lm.length (fun k i wr => ∃ (j : Nat) (l1 : List UInt8), i = .int .i64 (j : Int) ∧ Hid (j + k = lm.length ∧ l1.length = lm.length) ∧ Hid (wr.ownsRow base 5 1 (.slice (some ⟨g0, 0, none⟩) lm.length c0) lm.length (bv l1)) ∧ Hid (w6.grownBy wr (some g0)))
  case atStart => exact ⟨0, lm, rfl, ⟨by simp, rfl⟩, HO6', World.grownBy.refl _ _⟩
  case round =>
    clear HO6'
    obtain ⟨j, l1, rfl, hj, HO, HG⟩ := hrel
    by_cases hlt : j < lm.length
    · have hjl : j < l.length + 1 := by omega
      have ho := HO.out
      have hcell : ‹World›.cell? ⟨g0, j, none⟩ = some (.int .u8 ((l1[j]'(by have := hj.out.2; omega)).toNat : Int)) := by
        rw [ho.cellAt j (by omega)]
        simp [bv, List.getElem?_eq_getElem (show j < l1.length by have := hj.out.2; omega)]
      have hfz := ho.frozenAt j
      have hst := ho.stored j (.int .u8 102)
      have est : (bv l1).set j (.int .u8 102) = bv (l1.set j 102) := by simp [bv, List.map_set]
      rw [est] at hst
      have Hst := Lib.hid hst
      clear hst est ho
      go_wp2_with fail
      go_roundg (gk - 1)
      case measure => have := hj.out; omega
      case rel => exact ⟨j + 1, _, (by go_num), ⟨by have := hj.out; omega, by simp [hj.out.2]⟩, Hst.out.1, grown_trans HG.out Hst.out.2 (.inl rfl)⟩
    · have hjl : ¬ j < l.length + 1 := by omega
      have HB7 := Lib.hid (Bl.grown HB6.out HG.out (fun k hk => by injection hk with hk; omega))
      have HX7 := Lib.hid ((HG.out.block _ (Array.getElem?_eq_some_iff.1 HX6.out).1 (fun e => by injection e with e; omega)).trans HX6.out)
      have HY7 := Lib.hid ((HG.out.block _ (Array.getElem?_eq_some_iff.1 HY6.out).1 (fun e => by injection e with e; omega)).trans HY6.out)
      have HV7 := Lib.hid ((HG.out.block _ (Array.getElem?_eq_some_iff.1 HV6.out).1 (fun e => by injection e with e; omega)).trans HV6.out)
      have HAX7 := Lib.hid (HAX6.out.grown HG.out (fun ad e => by have := HFX.out ad e; intro h; injection h with h; omega))
      have HAY7 := Lib.hid (HAY6.out.grown HG.out (fun ad e => by have := HFY.out ad e; intro h; injection h with h; omega))
      have HAD7 : Hid (At ‹World› A (bv d.body)) := Lib.hid (HADL.out _ HB7.out)
      clear HO HG HB6 HX6 HY6 HV6 HAX6 HAY6 HAD6 HA26 hj
      go_wp2_with (first | (refine load_dg (dcells_size x Ax cx) rfl (.tmp 6) rfl b6 rfl HY7.out ?_) | (refine load_dg (dcells_size x Ay cy) rfl (.tmp 8) rfl b8 rfl HV7.out ?_))
      refine (sameD_any x Ax Ay cx cy _ HAX7.out HAY7.out).mono ?_
      rintro e w8 ⟨rfl, hb8'⟩
      have HB8 := Lib.hid (Bl.step HB7.out hb8')
      have HX8 := Lib.hid ((hb8'.block _ (Array.getElem?_eq_some_iff.1 HX7.out).1).trans HX7.out)
      have HAD8 := Lib.hid (HAD7.out.mono hb8')
      clear hb8' HB7 HX7 HAD7 HY7 HV7 HAX7 HAY7
      cases hyy : mayD d with
      | false =>
        have HP := Lib.hid (HPN.out hyy)
        rw [hyy] at HMR
        clear hyy
        go_wp2_with (first | (go_at_call 12; refine (num18_any _ _).mono ?_; rintro e w' ⟨rfl, rfl⟩) | (refine load_dg HS.out rfl (.tmp 2) rfl w.heap.size rfl HX8.out ?_))
        refine (HP.out _).mono ?_
        rintro e w9 ⟨rfl, hb9⟩
        have HB9 := Lib.hid (Bl.step HB8.out hb9)
        have HX9 := Lib.hid ((hb9.block _ (Array.getElem?_eq_some_iff.1 HX8.out).1).trans HX8.out)
        clear hb9
        go_wp2_with (refine load_dg HS.out rfl (.tmp 2) rfl w.heap.size rfl HX9.out ?_)
        refine (HMR.out _).mono ?_
        rintro e w10 ⟨rfl, hb10⟩
        have HB10 := Lib.hid (Bl.step HB9.out hb10)
        clear hb10
        go_wp2_with (go_at_call 12; refine (num18_any _ _).mono ?_; rintro e w' ⟨rfl, rfl⟩)
        refine (known18_any _).mono ?_
        rintro e w11 ⟨rfl, hb11⟩
        have HB11 := Lib.hid (Bl.step HB10.out hb11)
        clear hb11
        go_wp2_with fail
        go_ret
        exact ⟨rfl, HB11.out⟩
      | true =>
        have HP := Lib.hid (HPY.out hyy)
        have HR := Lib.hid (HRY.out hyy)
        have hpl := putD_len hyy
        have HAN := Lib.hid (answerD_put hyy (by omega))
        rw [hyy] at HMR
        clear hyy
        generalize putD d = PB at *
        go_wp2_with (first | (go_at_call 12; refine (num18_any _ _).mono ?_; rintro e w' ⟨rfl, rfl⟩) | (refine load_dg HS.out rfl (.tmp 2) rfl w.heap.size rfl HX8.out ?_))
        refine (HP.out _ HAD8.out).mono ?_
        rintro e w9 ⟨gp, cp, rfl, hop, hb9⟩
        have HB9 := Lib.hid (Bl.step HB8.out hb9)
        have HX9 := Lib.hid ((hb9.block _ (Array.getElem?_eq_some_iff.1 HX8.out).1).trans HX8.out)
        have HAD9 := Lib.hid (HAD8.out.mono hb9)
        have HAP9 := Lib.hid (own_at hop)
        clear hb9 hop HB8 HX8 HAD8
        go_wp2_with (refine load_dg HS.out rfl (.tmp 2) rfl w.heap.size rfl HX9.out ?_)
        refine (HMR.out _).mono ?_
        rintro e w10 ⟨rfl, hb10⟩
        have HB10 := Lib.hid (Bl.step HB9.out hb10)
        have HX10 := Lib.hid ((hb10.block _ (Array.getElem?_eq_some_iff.1 HX9.out).1).trans HX9.out)
        have HAD10 := Lib.hid (HAD9.out.mono hb10)
        have HAP10 := Lib.hid (HAP9.out.mono hb10)
        clear hb10 HB9 HX9 HAD9 HAP9
        go_wp2_with fail
        refine (msg_readD (some ⟨gp, 0, none⟩) cp PB _ HAP10.out (by omega)).mono ?_
        rw [HAN.out]
        rintro e w11 ⟨Az, cz, rfl, hAz, _, hb11⟩
        dsimp only at hAz ⊢
        have HB11 := Lib.hid (Bl.step HB10.out hb11)
        have HX11 := Lib.hid ((hb11.block _ (Array.getElem?_eq_some_iff.1 HX10.out).1).trans HX10.out)
        have HAD11 := Lib.hid (HAD10.out.mono hb11)
        have HAP11 := Lib.hid (HAP10.out.mono hb11)
        have HAZ11 := Lib.hid hAz
        clear hb11 hAz HB10 HX10 HAD10 HAP10
        go_upto_region 18 with (refine store_dg_new (dcells_size d Az cz) (dcells_all _ _ _) rfl (.tmp 13) (.tmp 89) rfl rfl rfl ?_)
        have hba := (Below.refl w11.heap.size w11).alloc (Nat.le_refl _) (.cells (dcells d Az cz) 53)
        have HB12 := Lib.hid (Bl.step HB11.out hba)
        have HX12 := Lib.hid ((hba.block _ (Array.getElem?_eq_some_iff.1 HX11.out).1).trans HX11.out)
        have HAD12 := Lib.hid (HAD11.out.mono hba)
        have HAP12 := Lib.hid (HAP11.out.mono hba)
        have HAZ12 := Lib.hid (HAZ11.out.mono hba)
        have HY12 := Lib.hid (heap_alloc_new w11 (.cells (dcells d Az cz) 53))
        clear hba HB11 HX11 HAD11 HAP11 HAZ11
        generalize w11.alloc (.cells (dcells d Az cz) 53) = w12 at *
        generalize w11.heap.size = b13 at *
        refine wp_region_seq (fun _ => False) [] [(0, true), (1, true), (2, true), (3, false), (4, true), (5, true), (6, true), (7, true), (9, true), (8, false), (10, false), (11, true), (12, true), (13, true), (14, true), (15, true), (16, true), (17, false), (18, true), (19, true), (20, false), (21, true), (22, true)] (by kernel_rfl) (by kernel_rfl) (fun _ _ d _ _ h => by cases d <;> exact h) rfl (by kernel_rfl) ?_
        have UA := Lib.hid (Up.bytes (T := fun _ => False) (w := w12.drew) (show At w12.drew A (bv d.body) from HAD12.out) (fun _ _ h => h))
        have UZ := Lib.hid (Up.bytes (T := fun _ => False) (w := w12.drew) (show At w12.drew Az (bv d.body) from HAZ12.out) (fun _ _ h => h))
        have U : Up (fun _ => False) w12.drew (fun u => (convert 28 9 (.slice (some ⟨gp, 0, none⟩) PB.length cp)).run Tryd.prog u = .ok (.string ⟨PB.toArray⟩) u) := (Up.bytes (T := fun _ => False) (w := w12.drew) (show At w12.drew (some ⟨gp, 0, none⟩) (bv PB) from HAP12.out) (fun _ _ h => h)).map (fun u hu => convert_at u _ cp PB hu)
        have hx12 : w12.drew.heap[w.heap.size]? = some (.cells dc 53 (0, 0)) := HX12.out
        have UX := Lib.hid (Up.blk (T := fun _ => False) hx12 (fun h => h))
        have hy12 : w12.drew.heap[b13]? = some (.cells (dcells d Az cz) 53 (0, 0)) := HY12.out
        have UY := Lib.hid (Up.blk (T := fun _ => False) hy12 (fun h => h))
        have BED : Hid (Below w.heap.size w w12.drew) := HB12.out.drew
        clear hx12 hy12 HX12 HY12 HAD12 HAP12 HAZ12 HB12
        generalize w12.drew = wd at *
        refine seq_at (some 91) (v := ?_) rfl (by kernel_rfl) (by kernel_rfl) ?_ ?_
        rotate_left
        · intro w' hw'
          go_simp
          try with_reducible rfl
        simp only [Act.put, List.setIfInBounds_toArray, List.set_cons_zero, List.set_cons_succ]
        refine seq_at (some 92) (v := ?_) rfl (by kernel_rfl) (by kernel_rfl) ?_ ?_
        rotate_left
        · intro w' hw'
          obtain q0 := U w' hw'
          go_simp
          try with_reducible rfl
        simp only [Act.put, List.setIfInBounds_toArray, List.set_cons_zero, List.set_cons_succ]
        clear U
        refine seq_load_dg (some 93) rfl (by kernel_rfl) (by kernel_rfl) (.tmp 2) (by kernel_rfl) w.heap.size dc rfl HS.out UX.out ?_
        simp only [Act.put, List.setIfInBounds_toArray, List.set_cons_zero, List.set_cons_succ]
        refine seq_eff rfl (by kernel_rfl) (fun K hK => ?_)
        go_simp
        refine (HR.out _ (UA.out _ (Ex.refl _ _))).mono ?_
        rintro e w13 ⟨g13, c13, rfl, ho13, hb13⟩
        refine hK.out _ _ (.inl (Ex.below hb13)) ?_
        try simp only [Act.put, List.setIfInBounds_toArray, List.set_cons_zero, List.set_cons_succ]
        clear hK
        have UA13 := Lib.hid (UA.out.later (Ex.below hb13))
        have UZ13 := Lib.hid (UZ.out.later (Ex.below hb13))
        have UX13 := Lib.hid (UX.out.later (Ex.below hb13))
        have UY13 := Lib.hid (UY.out.later (Ex.below hb13))
        have B13 := Lib.hid (Bl.step BED.out hb13)
        have U : Up (fun _ => False) w13 (fun u => (convert 28 9 (.slice (some ⟨g13, 0, none⟩) PB.length c13)).run Tryd.prog u = .ok (.string ⟨PB.toArray⟩) u) := (Up.bytes (T := fun _ => False) (own_at ho13) (fun _ _ h => h)).map (fun u hu => convert_at u _ c13 PB hu)
        clear hb13 ho13 UA UZ UX UY BED
        refine seq_at (some 95) (v := ?_) rfl (by kernel_rfl) (by kernel_rfl) ?_ ?_
        rotate_left
        · intro w' hw'
          obtain q0 := U w' hw'
          go_simp
          try with_reducible rfl
        simp only [Act.put, List.setIfInBounds_toArray, List.set_cons_zero, List.set_cons_succ]
        clear U
        have hwz : IntKind.i64.wrap 0 = 0 := rfl
        refine seq_at (some 96) (v := ?_) rfl (by kernel_rfl) (by kernel_rfl) ?_ ?_
        rotate_left
        · intro w' hw'
          go_simp
          try with_reducible rfl
        simp only [Act.put, List.setIfInBounds_toArray, List.set_cons_zero, List.set_cons_succ]
        refine seq_at (some 97) (v := ?_) rfl (by kernel_rfl) (by kernel_rfl) ?_ ?_
        rotate_left
        · intro w' hw'
          go_simp
          try with_reducible rfl
        simp only [Act.put, List.setIfInBounds_toArray, List.set_cons_zero, List.set_cons_succ]
        refine seq_at (some 98) (v := ?_) rfl (by kernel_rfl) (by kernel_rfl) ?_ ?_
        rotate_left
        · intro w' hw'
          go_simp
          try with_reducible rfl
        simp only [Act.put, List.setIfInBounds_toArray, List.set_cons_zero, List.set_cons_succ]
        refine seq_at (some 100) (v := ?_) rfl (by kernel_rfl) (by kernel_rfl) ?_ ?_
        rotate_left
        · intro w' hw'
          go_simp
          try with_reducible rfl
        simp only [Act.put, List.setIfInBounds_toArray, List.set_cons_zero, List.set_cons_succ]
        refine seq_eff rfl (by kernel_rfl) (fun K hK => ?_)
        go_simp
        refine (num18_any _ _).mono ?_
        rintro e w' ⟨rfl, rfl⟩
        refine hK.out _ _ (.inl (Ex.refl _ _)) ?_
        try simp only [Act.put, List.setIfInBounds_toArray, List.set_cons_zero, List.set_cons_succ]
        clear hK
        refine seq_eff rfl (by kernel_rfl) (fun K hK => ?_)
        go_simp
        refine (num18_any _ _).mono ?_
        rintro e w' ⟨rfl, rfl⟩
        refine hK.out _ _ (.inl (Ex.refl _ _)) ?_
        try simp only [Act.put, List.setIfInBounds_toArray, List.set_cons_zero, List.set_cons_succ]
        clear hK
        refine seq_at (some 102) (v := ?_) rfl (by kernel_rfl) (by kernel_rfl) ?_ ?_
        rotate_left
        · intro w' hw'
          go_simp
          try with_reducible rfl
        simp only [Act.put, List.setIfInBounds_toArray, List.set_cons_zero, List.set_cons_succ]
        refine seq_at (some 103) (v := ?_) rfl (by kernel_rfl) (by kernel_rfl) ?_ ?_
        rotate_left
        · intro w' hw'
          go_simp
          try with_reducible rfl
        simp only [Act.put, List.setIfInBounds_toArray, List.set_cons_zero, List.set_cons_succ]
        refine seq_at (some 104) (v := ?_) rfl (by kernel_rfl) (by kernel_rfl) ?_ ?_
        rotate_left
        · intro w' hw'
          go_simp
          try with_reducible rfl
        simp only [Act.put, List.setIfInBounds_toArray, List.set_cons_zero, List.set_cons_succ]
        refine seq_at (some 105) (v := ?_) rfl (by kernel_rfl) (by kernel_rfl) ?_ ?_
        rotate_left
        · intro w' hw'
          go_simp
          try with_reducible rfl
        simp only [Act.put, List.setIfInBounds_toArray, List.set_cons_zero, List.set_cons_succ]
        refine seq_load_dg (some 106) rfl (by kernel_rfl) (by kernel_rfl) (.tmp 13) (by kernel_rfl) b13 (dcells d Az cz) rfl (dcells_size _ _ _) UY13.out ?_
        simp only [Act.put, List.setIfInBounds_toArray, List.set_cons_zero, List.set_cons_succ]
        refine seq_load_dg (some 107) rfl (by kernel_rfl) (by kernel_rfl) (.tmp 2) (by kernel_rfl) w.heap.size dc rfl HS.out UX13.out ?_
        simp only [Act.put, List.setIfInBounds_toArray, List.set_cons_zero, List.set_cons_succ]
        refine seq_eff rfl (by kernel_rfl) (fun K hK => ?_)
        go_simp
        refine (HSD.out _ _ _ (UZ13.out _ (Ex.refl _ _)) (UA13.out _ (Ex.refl _ _))).mono ?_
        rintro e w14 ⟨rfl, hb14⟩
        refine hK.out _ _ (.inl (Ex.below hb14)) ?_
        try simp only [Act.put, List.setIfInBounds_toArray, List.set_cons_zero, List.set_cons_succ]
        clear hK
        have B14 := Lib.hid (Bl.step B13.out hb14)
        clear hb14
        refine seq_at (some 109) (v := ?_) rfl (by kernel_rfl) (by kernel_rfl) ?_ ?_
        rotate_left
        · intro w' hw'
          go_simp
          try with_reducible rfl
        simp only [Act.put, List.setIfInBounds_toArray, List.set_cons_zero, List.set_cons_succ]
        refine seq_at (some 110) (v := ?_) rfl (by kernel_rfl) (by kernel_rfl) ?_ ?_
        rotate_left
        · intro w' hw'
          go_simp
          try with_reducible rfl
        simp only [Act.put, List.setIfInBounds_toArray, List.set_cons_zero, List.set_cons_succ]
        refine seq_eff rfl (by kernel_rfl) (fun K hK => ?_)
        go_simp
        refine (known18_any _).mono ?_
        rintro e w15 ⟨rfl, hb15⟩
        refine hK.out _ _ (.inl (Ex.below hb15)) ?_
        try simp only [Act.put, List.setIfInBounds_toArray, List.set_cons_zero, List.set_cons_succ]
        clear hK
        have B15 := Lib.hid (Bl.step B14.out hb15)
        clear hb15
        refine seq_at (some 112) (v := ?_) rfl (by kernel_rfl) (by kernel_rfl) ?_ ?_
        rotate_left
        · intro w' hw'
          go_simp
          try with_reducible rfl
        simp only [Act.put, List.setIfInBounds_toArray, List.set_cons_zero, List.set_cons_succ]
        refine seq_at (some 4) (v := ?_) rfl (by kernel_rfl) (by kernel_rfl) ?_ ?_
        rotate_left
        · intro w' hw'
          go_simp
          try with_reducible rfl
        simp only [Act.put, List.setIfInBounds_toArray, List.set_cons_zero, List.set_cons_succ]
        refine seq_nil ?_
        go_wp2_with fail
        go_ret
        exact ⟨rfl, B15.out⟩
theorem dgrams_any (hl : l.length ≤ 140737488351232) (hdl : d.body.length ≤ 140737488351232) :
    Calls Tryd.prog 6 #[.agg (dcells d A c), .slice A2 l.length c2] w (fun e w' => e = .returned (.bool true) ∧ Below w.heap.size w w') := by
  by_cases h : l.length ≤ 9000
  · by_cases h2 : d.body.length ≤ 9000
    · exact dgrams_main w d A c hA A2 c2 l hA2 hc2 hlt2 h h2
    · have h1' : ¬ 9000 < l.length := by omega
      have h2' : 9000 < d.body.length := by omega
      have hx1 := heap_alloc_new w (.cells (dcells d A c) 53)
      obtain ⟨q0, q1, q2, q3, q4, q5⟩ := dg_cells hx1
      have HB1 : Hid (Below w.heap.size w (w.alloc (.cells (dcells d A c) 53))) := Lib.hid ((Below.refl _ _).alloc (Nat.le_refl _) _)
      clear hx1 q0 q1 q2 q3 q4 h h2
      generalize dcells d A c = dc at *
      go_enter Tryd.func6, Tryd.ntmps6
      go_wp2_with fail
      refine (known18_any _).mono ?_
      rintro e w7 ⟨rfl, hb7⟩
      go_wp2_with fail
      go_ret
      exact ⟨rfl, Bl.step HB1.out hb7⟩
  · have h1' : 9000 < l.length := by omega
    have HB1 : Hid (Below w.heap.size w (w.alloc (.cells (dcells d A c) 53))) := Lib.hid ((Below.refl _ _).alloc (Nat.le_refl _) _)
    clear h
    generalize dcells d A c = dc at *
    go_enter Tryd.func6, Tryd.ntmps6
    go_wp2_with fail
    refine (known18_any _).mono ?_
    rintro e w7 ⟨rfl, hb7⟩
    go_wp2_with fail
    go_ret
    exact ⟨rfl, Bl.step HB1.out hb7⟩
end
end Go.Proofs.YtemmdlanidepbaaDoor
