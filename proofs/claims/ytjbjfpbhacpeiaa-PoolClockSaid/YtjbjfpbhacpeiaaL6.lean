/- The law PoolClock, from the free pages on. Printed by gen_l6.py. -/
import Derived.Test.YtjbjfpbhacpeiaaC2
import Derived.Test.YtjbjfpbhacpeiaaL4
namespace Go.Proofs.Ytjbjfpbhacpeiaa
open Go.RowKit
set_option linter.unusedSimpArgs false
set_option linter.unusedVariables false
set_option maxRecDepth 100000

noncomputable def ctail : Code := tailOf 6 (Try.f5.body.getD .skip)
def iv (l : List Nat) : List Value := l.map fun n : Nat => .int .i64 (n : Int)
theorem iv_one (l : List Nat) : ∀ u ∈ iv l, u.oneCell' = true := fun u hu => by
  obtain ⟨n, _, rfl⟩ := List.mem_map.1 hu
  rfl
theorem infoInt : (Try.prog.info? 3).map (fun i => (i.zero, i.size, i.bytes)) = some (some (.int .i64 0), 1, 8) := by kernel_rfl
theorem at_cell {w : World} {g : Nat} {l : List Nat} (h : At w (some ⟨g, 0, none⟩) (iv l)) {i n : Nat} (hi : l[i]? = some n) : w.cell? ⟨g, i, none⟩ = some (.int .i64 (n : Int)) := by
  obtain ⟨ad, e, hc⟩ := h i (.int .i64 (n : Int)) (by simp [iv, hi])
  injection e with e
  subst e
  rw [add0] at hc
  exact hc
/-- what is between the steps: the pool, what lies below -/
structure Clk (w0 W : World) (B b m : Nat) (S : PS) (wr : World) : Prop where
  pool : PoolAt wr b m S
  below : Below B w0 wr
  size : W.heap.size ≤ wr.heap.size
section
variable {w0 W wr w' : World} {B b m : Nat} {S S' : PS} (h : Clk w0 W B b m S wr)
include h
theorem Clk.step (hB : B ≤ b ∧ B ≤ m) (hs : B ≤ W.heap.size) (hp : PoolAt w' b m S') (hx : Ex (PB b m) wr w') : Clk w0 W B b m S' w' :=
  ⟨hp, h.below.trans (hx.toBelow (by have := h.size; omega) (fun k hk => by rcases hk with rfl | rfl; exact hB.1; exact hB.2)), Nat.le_trans h.size hx.size⟩
theorem Clk.later (hs : B ≤ W.heap.size) (hb : Below wr.heap.size wr w') : Clk w0 W B b m S w' :=
  ⟨h.pool.later hb, h.below.trans (hb.mono (by have := h.size; omega)), Nat.le_trans h.size hb.size⟩
end
def cv (S : PS) (f k : Nat) : List Value := (List.range 16).map fun v : Nat => .int .i64 (cntV S f k (v : Int) : Int)
theorem cv_get (S : PS) (f k v : Nat) (hv : v < 16) : (cv S f k)[v]? = some (.int .i64 (cntV S f k (v : Int) : Int)) := by simp [cv, hv]
theorem cv_set (S : PS) (f k v : Nat) (hv : v < 16) (e : vv (f + k) S = (v : Int)) : (cv S f k).set v (.int .i64 ((cntV S f k (v : Int) : Int) + 1)) = cv S f (k + 1) := by
  apply List.ext_getElem?
  intro i
  rw [List.getElem?_set]
  by_cases hi : v = i
  · subst hi
    rw [if_pos rfl, cv_get _ _ _ _ hv, cntV_succ, e, if_pos rfl]
    simp [cv, hv]
  · rw [if_neg hi]
    by_cases h16 : i < 16
    · rw [cv_get _ _ _ _ h16, cv_get _ _ _ _ h16, cntV_succ, if_neg (by rw [e]; omega)]
      rfl
    · rw [List.getElem?_eq_none (by simp [cv]; omega), List.getElem?_eq_none (by simp [cv]; omega)]
set_option maxHeartbeats 16000000 in
theorem clock_tail (w0 W : World) (B b m : Nat) {K : Int} {S : PS} (hP : PoolAt W b m S) (hS : S.Ok K) (hW : Below B w0 W) (hBW : B ≤ W.heap.size) (hB : B ≤ b ∧ B ≤ m) (u0 u1 u2 u3 u4 u6 u7 u8 u9 u10 u11 u12 u13 u14 u15 u16 u17 u18 u19 u20 u21 u22 u23 u24 u25 u26 u27 u28 u29 u30 u31 u32 u33 u34 u35 u36 u37 u38 u39 u40 u41 u42 u43 u44 u45 u46 u47 u48 u49 u50 u51 u52 u53 u54 u55 u56 u57 u58 u59 u60 u61 u62 u63 u64 u65 u66 u67 u68 u69 u70 u71 u72 u73 u74 u75 u76 u77 u78 u79 u80 u81 u82 u83 u84 u85 u86 u87 u88 u89 u90 u91 u92 u93 u94 u95 u96 u97 u98 u99 u100 u101 u102 u103 u104 u105 u106 u107 u108 u109 u110 u111 u112 u113 u114 u115 u116 u117 u118 u119 u120 u121 u122 u123 u124 u125 u126 u127 u128 u129 u130 u131 u132 u133 u134 u135 u136 u137 u138 u139 u140 u141 u142 u143 u144 u145 u146 u147 u148 u149 u150 u151 u152 u153 u154 u155 u156 u157 u158 u159 u160 u161 u162 u163 u164 u165 u166 u167 u168 u169 u170 u171 u172 u173 u174 u175 u176 u177 u178 u179 u180 : Value) :
    ctail.wp Try.prog (bodyPost Try.prog Try.f5 (fun e w' => e = .returned (.bool true) ∧ Below B w0 w')) { tmps := (u0 :: u1 :: u2 :: u3 :: u4 :: .pointer (some ⟨b, 0, none⟩) :: u6 :: u7 :: u8 :: u9 :: u10 :: u11 :: u12 :: u13 :: u14 :: u15 :: u16 :: u17 :: u18 :: u19 :: u20 :: u21 :: u22 :: u23 :: u24 :: u25 :: u26 :: u27 :: u28 :: u29 :: u30 :: u31 :: u32 :: u33 :: u34 :: u35 :: u36 :: u37 :: u38 :: u39 :: u40 :: u41 :: u42 :: u43 :: u44 :: u45 :: u46 :: u47 :: u48 :: u49 :: u50 :: u51 :: u52 :: u53 :: u54 :: u55 :: u56 :: u57 :: u58 :: u59 :: u60 :: u61 :: u62 :: u63 :: u64 :: u65 :: u66 :: u67 :: u68 :: u69 :: u70 :: u71 :: u72 :: u73 :: u74 :: u75 :: u76 :: u77 :: u78 :: u79 :: u80 :: u81 :: u82 :: u83 :: u84 :: u85 :: u86 :: u87 :: u88 :: u89 :: u90 :: u91 :: u92 :: u93 :: u94 :: u95 :: u96 :: u97 :: u98 :: u99 :: u100 :: u101 :: u102 :: u103 :: u104 :: u105 :: u106 :: u107 :: u108 :: u109 :: u110 :: u111 :: u112 :: u113 :: u114 :: u115 :: u116 :: u117 :: u118 :: u119 :: u120 :: u121 :: u122 :: u123 :: u124 :: u125 :: u126 :: u127 :: u128 :: u129 :: u130 :: u131 :: u132 :: u133 :: u134 :: u135 :: u136 :: u137 :: u138 :: u139 :: u140 :: u141 :: u142 :: u143 :: u144 :: u145 :: u146 :: u147 :: u148 :: u149 :: u150 :: u151 :: u152 :: u153 :: u154 :: u155 :: u156 :: u157 :: u158 :: u159 :: u160 :: u161 :: u162 :: u163 :: u164 :: u165 :: u166 :: u167 :: u168 :: u169 :: u170 :: u171 :: u172 :: u173 :: u174 :: u175 :: u176 :: u177 :: u178 :: u179 :: u180 :: []).toArray, defers := [] } W := by
  conv => arg 2; whnf
  obtain ⟨Q, hQ⟩ : ∃ Q, Q = bodyPost Try.prog Try.f5 (fun e w' => e = .returned (.bool true) ∧ Below B w0 w') := ⟨_, rfl⟩
  rw [← hQ]
  have HQ := Lib.hid hQ
  have hz := zfr
  have H0 : Hid (Clk w0 W B b m S W) := Lib.hid ⟨hP, hW, Nat.le_refl _⟩
  have HS := Lib.hid hS
  have hlb : b < W.heap.size ∧ m < W.heap.size := ⟨hP.cells.lt, hP.mlt⟩
  clear hQ hP hS hW
  go_wp2_with fail
  go_loopg [10, 11] 16 (fun kk v i wr => ∃ k : Nat, i = .int .i64 (k : Int) ∧ Hid (k + kk = 16 ∧ wr.ownsRow W.heap.size 3 1 v (freeK S k).length (iv (freeK S k)) ∧ Clk w0 W B b m S wr))
  case atStart => exact ⟨0, rfl, Lib.hid ⟨Nat.zero_add _, ⟨by simp [freeK, iv], .inl ⟨rfl, rfl⟩⟩, H0.out⟩⟩
  case round =>
    obtain ⟨k, rfl, hj⟩ := hrel
    clear H0
    by_cases hlt : k < 16
    · have hlI : (k : Int) < 16 := by omega
      have HI : Hid (I64 (k : Int)) := Lib.hid (by unfold I64; omega)
      have HL := Lib.hid (look_any wr b m hj.out.2.2.pool HS.out (k : Int) HI.out)
      have HO := Lib.hid (look_ok HS.out (k : Int))
      have HPn : Hid (∀ W', PoolAt W' b m S → Calls Try.prog 16 #[.pointer (some ⟨b, 0, none⟩), .int .i64 (k : Int)] W' (fun e w' => e = .returned (.int .i64 (pinsS S (k : Int))) ∧ W' = w')) := Lib.hid (fun W' hW' => pins_any W' b m hW' HS.out _ HI.out)
      cases hv : (lookV S (k : Int)).2 with
      | false =>
        have HG := Lib.hid (freeK_no (S := S) (k := k) (by simp [freeG, hv]))
        rw [hv] at HL
        generalize (lookV S (k : Int)).1 = F at *
        clear hv
        go_wp2_with fail
        refine HL.out.mono ?_
        rintro e w1 ⟨rfl, hb⟩
        have h2 := hb.trans ((Below.refl _ w1).alloc hb.size (.cells (fA F) 39))
        have HJ := Lib.hid (And.intro (own_below hj.out.2.1 h2) (hj.out.2.2.later hBW h2))
        clear hb h2 HL
        go_wp2_with (refine wpList_store_row rfl 39 (.tmp 12) (.tmp 79) rfl _ (fA F) rfl rfl 39 _ (heap_alloc_new _ (.cells (fA fr0) 39)) (infoFrA HO.out) (fA_size fr0_ok HO.out) (fv_all _) ?_; rw [World.setRow_alloc_new])
        go_roundg (gk - 1)
        case measure => have := hj.out; omega
        case rel => exact ⟨k + 1, (by go_num), Lib.hid ⟨(by have := hj.out; omega), by rw [HG.out]; exact HJ.out⟩⟩
      | true =>
        rw [hv] at HL
        generalize (lookV S (k : Int)).1 = F at *
        have hkl := freeK_le S k
        by_cases hp0 : pinsS S (k : Int) = 0
        · have HG := Lib.hid (freeK_yes (S := S) (k := k) (by simp [freeG, hv, hp0]))
          rw [hp0] at HPn
          clear hv hp0
          go_wp2_with fail
          refine HL.out.mono ?_
          rintro e w1 ⟨rfl, hb⟩
          have h2 := hb.trans ((Below.refl _ w1).alloc hb.size (.cells (fA F) 39))
          have HJo := Lib.hid (own_below hj.out.2.1 h2)
          have HJ := Lib.hid (hj.out.2.2.later hBW h2)
          clear hb h2 HL
          go_upto_region 19 with (refine wpList_store_row rfl 39 (.tmp 12) (.tmp 79) rfl _ (fA F) rfl rfl 39 _ (heap_alloc_new _ (.cells (fA fr0) 39)) (infoFrA HO.out) (fA_size fr0_ok HO.out) (fv_all _) ?_; rw [World.setRow_alloc_new])
          generalize w1.heap.size = g12 at *
          generalize w1.alloc (.cells (fA F) 39) = w2 at *
          have HP2 := Lib.hid (HPn.out w2 HJ.out.pool)
          go_wp2_with fail
          refine HP2.out.mono ?_
          rintro e w' ⟨rfl, rfl⟩
          have HO2 := Lib.hid (HJo.out.alloc (.cells #[.int .i64 (k : Int)] 3))
          have HC2 := Lib.hid (HJ.out.later hBW ((Below.refl _ w2).alloc (Nat.le_refl _) (.cells #[.int .i64 (k : Int)] 3)))
          have HN : Hid (At (w2.alloc (.cells #[.int .i64 (k : Int)] 3)) (some ⟨w2.heap.size, 0, none⟩) (iv [k])) := Lib.hid (at_row (heap_alloc_new w2 (.cells #[.int .i64 (k : Int)] 3)))
          have HBS : Hid (W.heap.size ≤ (w2.alloc (.cells #[.int .i64 (k : Int)] 3)).heap.size) := Lib.hid HC2.out.size
          have hk16 : (freeK S k).length ≤ 16 := by omega
          clear HJo HJ HPn HP2
          go_wp2_with (refine app_rows _ rfl (.tmp 88) (.tmp 90) 48 rfl W.heap.size 3 (.int .i64 0) 1 8 Try.underlying48 infoInt rfl (by omega) _ _ _ rfl HO2.out _ 1 1 (iv [k]) rfl rfl HN.out (iv_one [k]) (by simp only [maxLen]; omega) (by omega) HBS.out ?_; intro v3 w3 ho3 hg3 hf3)
          go_roundg (gk - 1)
          case measure => have := hj.out; omega
          case rel =>
            refine ⟨k + 1, (by go_num), Lib.hid ⟨(by have := hj.out; omega), ?_, ?_⟩⟩
            · rw [HG.out, List.length_append]
              have : iv (freeK S k ++ [k]) = iv (freeK S k) ++ iv [k] := by simp [iv]
              rw [this]
              simpa using ho3
            · have hxx := Ex.grown (T := fun k => W.heap.size ≤ k) hg3 (fun k hk => (own_lt HO2.out hk).1)
              exact ⟨HC2.out.pool.kept hxx (by omega) (by omega), HC2.out.below.trans (hxx.toBelow (by have := HC2.out.size; omega) (fun k hk => by omega)), Nat.le_trans HC2.out.size hxx.size⟩
        · have HG := Lib.hid (freeK_no (S := S) (k := k) (by simp [freeG, hv, hp0]))
          have hpb : (pinsS S (k : Int) == 0) = false := by simpa using hp0
          generalize pinsS S (k : Int) = N at *
          clear hv hp0
          go_wp2_with fail
          refine HL.out.mono ?_
          rintro e w1 ⟨rfl, hb⟩
          have h2 := hb.trans ((Below.refl _ w1).alloc hb.size (.cells (fA F) 39))
          have HJ := Lib.hid (And.intro (own_below hj.out.2.1 h2) (hj.out.2.2.later hBW h2))
          clear hb h2 HL
          go_upto_region 19 with (refine wpList_store_row rfl 39 (.tmp 12) (.tmp 79) rfl _ (fA F) rfl rfl 39 _ (heap_alloc_new _ (.cells (fA fr0) 39)) (infoFrA HO.out) (fA_size fr0_ok HO.out) (fv_all _) ?_; rw [World.setRow_alloc_new])
          generalize w1.heap.size = g12 at *
          generalize w1.alloc (.cells (fA F) 39) = w2 at *
          have HP2 := Lib.hid (HPn.out w2 HJ.out.2.pool)
          go_wp2_with fail
          refine HP2.out.mono ?_
          rintro e w' ⟨rfl, rfl⟩
          go_wp2_with fail
          go_roundg (gk - 1)
          case measure => have := hj.out; omega
          case rel => exact ⟨k + 1, (by go_num), Lib.hid ⟨(by have := hj.out; omega), by rw [HG.out]; exact HJ.out⟩⟩

    · obtain rfl : k = 16 := by have := hj.out.1; omega
      have hown := hj.out.2.1
      obtain ⟨A, c, rfl, hnc⟩ := own_form hown
      have HC := Lib.hid hj.out.2.2
      by_cases hf0 : (freeL S).length = 0
      · have HV := Lib.hid (free_none HS.out hf0)
        have HVc := Lib.hid (victim_any wr b m HC.out.pool HS.out)
        rw [HV.out] at HVc
        have hfI : ((freeK S 16).length : Int) = 0 := by unfold freeL at hf0; omega
        have hfb : (((freeK S 16).length : Int) == 0) = true := by simp [hfI]
        clear hown hj HV hf0 hfI
        generalize (freeK S 16).length = f at *
        go_wp2_with fail
        refine HVc.out.mono ?_
        rintro e w1 ⟨rfl, h1, hx1⟩
        have HC1 := Lib.hid (HC.out.step hB hBW h1 hx1)
        clear h1 hx1
        go_wp2_with fail
        rw [HQ.out]
        go_ret
        exact ⟨rfl, HC1.out.below⟩
      · obtain ⟨g, c', hv⟩ := own_pos hown (by unfold freeL at hf0; omega)
        injection hv with hvA _ hvc
        subst hvA
        have HQ0 := Lib.hid (free_some HS.out hf0)
        have HAt : Hid (At wr (some ⟨g, 0, none⟩) (iv (freeL S))) := Lib.hid (own_at hown)
        have hgw : W.heap.size ≤ g := (own_lt hown rfl).1
        have hf16 : (freeL S).length ≤ 16 := freeK_le S 16
        obtain ⟨f, hf⟩ : ∃ f, (freeL S).length = f := ⟨_, rfl⟩
        have hfK : (freeK S 16).length = f := hf
        rw [hfK] at *
        rw [hf] at hf0 hf16
        have HF := Lib.hid hf
        have hfb : ((f : Int) == 0) = false := by simp; omega
        have hfb2 : ¬ (f : Int) = 0 := by omega
        have hpf : 0 < f := by omega
        have hngb : g ≠ b ∧ g ≠ m := ⟨by omega, by omega⟩
        clear hown hj hvc hnc hf hfK
        go_wp2_with fail
        go_loopg [16] f (fun kk i wr => ∃ j : Nat, i = .int .i64 (j : Int) ∧ Hid (j + kk = f ∧ Clk w0 W B b m (vst j S) wr ∧ At wr (some ⟨g, 0, none⟩) (iv (freeL S))))
        case atStart => exact ⟨0, rfl, Lib.hid ⟨Nat.zero_add _, HC.out, HAt.out⟩⟩
        case round =>
          obtain ⟨j, rfl, hj⟩ := hrel
          clear HC HAt
          by_cases hjf : j < f
          · have hjI : (j : Int) < (f : Int) := by omega
            have HVc := Lib.hid (victim_any wr b m hj.out.2.1.pool (vst_ok HS.out j))
            go_wp2_with fail
            refine HVc.out.mono ?_
            rintro e w1 ⟨rfl, h1, hx1⟩
            have HN : Hid (Clk w0 W B b m (vst (j + 1) S) w1 ∧ At w1 (some ⟨g, 0, none⟩) (iv (freeL S))) := Lib.hid ⟨hj.out.2.1.step hB hBW h1 hx1, Up.bytes hj.out.2.2 (fun ad e => by injection e with e; subst e; exact fun e => e.elim hngb.1 hngb.2) w1 hx1⟩
            clear h1 hx1 HVc
            go_wp2_with fail
            go_roundg (gk - 1)
            case measure => have := hj.out; omega
            case rel => exact ⟨j + 1, (by go_num), Lib.hid ⟨(by have := hj.out; omega), HN.out⟩⟩
          · obtain rfl : f = j := by have := hj.out.1; omega
            have HC := Lib.hid hj.out.2.1
            have HAt := Lib.hid hj.out.2.2
            clear hj
            have hPc : PCells (wr.alloc (.cells #[.int .i64 0, .int .i64 0, .int .i64 0, .int .i64 0, .int .i64 0, .int .i64 0, .int .i64 0, .int .i64 0, .int .i64 0, .int .i64 0, .int .i64 0, .int .i64 0, .int .i64 0, .int .i64 0, .int .i64 0, .int .i64 0] 54)) wr.heap.size (cv S f 0) 54 := by
              have := PCells.new wr (cv S f 0).toArray 54
              exact this
            go_upto_region 29 with fail
            have hbn : Below wr.heap.size wr (wr.alloc (.cells #[.int .i64 0, .int .i64 0, .int .i64 0, .int .i64 0, .int .i64 0, .int .i64 0, .int .i64 0, .int .i64 0, .int .i64 0, .int .i64 0, .int .i64 0, .int .i64 0, .int .i64 0, .int .i64 0, .int .i64 0, .int .i64 0] 54)) := (Below.refl _ _).alloc (Nat.le_refl _) _
            have HC2 := Lib.hid (HC.out.later hBW hbn)
            have HAt2 := Lib.hid (HAt.out.mono hbn)
            have hgc : W.heap.size ≤ wr.heap.size := HC.out.size
            have hggc : g ≠ wr.heap.size := fun e => by
              obtain ⟨y, hy⟩ : ∃ y, (freeL S)[0]? = some y := ⟨_, List.getElem?_eq_getElem (by have := HF.out; omega)⟩
              have := World.block_lt_of_cell? wr _ (at_cell HAt.out hy)
              dsimp only at this
              omega
            have HPc := Lib.hid hPc
            clear hPc hbn HC HAt
            generalize wr.heap.size = gc at *
            generalize wr.alloc (.cells #[.int .i64 0, .int .i64 0, .int .i64 0, .int .i64 0, .int .i64 0, .int .i64 0, .int .i64 0, .int .i64 0, .int .i64 0, .int .i64 0, .int .i64 0, .int .i64 0, .int .i64 0, .int .i64 0, .int .i64 0, .int .i64 0] 54) = w2 at *
            have hngc : gc ≠ b ∧ gc ≠ m := ⟨by omega, by omega⟩
            have hw2 : IntKind.i64.wrap (2 * (f : Int)) = 2 * (f : Int) := IntWalk.i64_in _ (by omega)
            go_wp2_with fail
            go_loopg [18] (2 * f) (fun kk i wr => ∃ k : Nat, i = .int .i64 (k : Int) ∧ Hid (k + kk = 2 * f ∧ Clk w0 W B b m (vst (f + k) S) wr ∧ At wr (some ⟨g, 0, none⟩) (iv (freeL S)) ∧ PCells wr gc (cv S f k) 54))
            case atStart => exact ⟨0, rfl, Lib.hid ⟨Nat.zero_add _, HC2.out, HAt2.out, HPc.out⟩⟩
            case round =>
              obtain ⟨k, rfl, hj⟩ := hrel
              clear HC2 HAt2 HPc
              by_cases hkf : k < 2 * f
              · have hkI : (k : Int) < 2 * (f : Int) := by omega
                have hVc := victim_any wr b m hj.out.2.1.pool (vst_ok HS.out (f + k))
                obtain ⟨r0, r15, rt⟩ := vv_range HS.out HQ0.out (f + k)
                obtain ⟨vn, hvn⟩ : ∃ vn : Nat, vv (f + k) S = (vn : Int) := ⟨(vv (f + k) S).toNat, by omega⟩
                rw [show (victimS (vst (f + k) S)).1.1 = (vn : Int) from hvn, rt] at hVc
                have hv16 : vn < 16 := by omega
                have hv0 : ¬ (vn : Int) < 0 := by omega
                have hv15 : ¬ (15 : Int) < (vn : Int) := by omega
                have hv15' : (vn : Int) ≤ 15 := by omega
                have hv16I : (vn : Int) < 16 := by omega
                have HVc := Lib.hid hVc
                have HE := Lib.hid hvn
                have hcl := cntV_le S f k (vn : Int)
                have hwc : IntKind.i64.wrap ((cntV S f k (vn : Int) : Int) + 1) = (cntV S f k (vn : Int) : Int) + 1 := IntWalk.i64_in _ (by omega)
                clear hVc hvn rt r0 r15
                go_wp2_with fail
                refine HVc.out.mono ?_
                rintro e w3 ⟨rfl, h1, hx1⟩
                have hP3 := hj.out.2.2.2.kept hx1 (fun e => e.elim hngc.1 hngc.2)
                have c17 : w3.cell? ⟨gc, vn, none⟩ = some (.int .i64 (cntV S f k (vn : Int) : Int)) := by rw [hP3.cell]; exact cv_get _ _ _ _ hv16
                have f17 := hP3.frozen vn
                have h3 := hj.out.2.1.step hB hBW h1 hx1
                have exS := setCell_ex (T := fun k => k = gc) vn (.int .i64 ((cntV S f k (vn : Int) : Int) + 1)) w3 rfl
                have HN : Hid (Clk w0 W B b m (vst (f + (k + 1)) S) (w3.setCell ⟨gc, vn, none⟩ (.int .i64 ((cntV S f k (vn : Int) : Int) + 1))) ∧ At (w3.setCell ⟨gc, vn, none⟩ (.int .i64 ((cntV S f k (vn : Int) : Int) + 1))) (some ⟨g, 0, none⟩) (iv (freeL S)) ∧ PCells (w3.setCell ⟨gc, vn, none⟩ (.int .i64 ((cntV S f k (vn : Int) : Int) + 1))) gc (cv S f (k + 1)) 54) := Lib.hid
                  ⟨⟨h3.pool.kept exS (Ne.symm hngc.1) (Ne.symm hngc.2), h3.below.trans (exS.toBelow (by have := h3.size; omega) (fun k hk => by omega)), Nat.le_trans h3.size exS.size⟩,
                    Up.bytes (Up.bytes hj.out.2.2.1 (fun ad e => by injection e with e; subst e; exact fun e => e.elim hngb.1 hngb.2) w3 hx1) (fun ad e => by injection e with e; subst e; exact hggc) _ exS,
                    by rw [← cv_set S f k vn hv16 HE.out]; exact hP3.set vn _⟩
                clear h1 hx1 HVc hP3 h3 exS
                generalize cntV S f k (vn : Int) = cn at *
                go_wp2_with fail
                go_roundg (gk - 1)
                case measure => have := hj.out; omega
                case rel => exact ⟨k + 1, (by go_num), Lib.hid ⟨(by have := hj.out; omega), HN.out⟩⟩
              · obtain rfl : 2 * f = k := by have := hj.out.1; omega
                have HC := Lib.hid hj.out.2.1
                have HAt := Lib.hid hj.out.2.2.1
                have HPc := Lib.hid hj.out.2.2.2
                clear hj
                go_wp2_with fail
                go_loopg [21] f (fun kk i wr' => ∃ j : Nat, i = .int .i64 (j : Int) ∧ Hid (j + kk = f) ∧ wr = wr')
                case atStart => exact ⟨0, rfl, Lib.hid (Nat.zero_add _), rfl⟩
                case round =>
                  obtain ⟨j, rfl, hj, rfl⟩ := hrel
                  by_cases hjf : j < f
                  · have hjI : (j : Int) < (f : Int) := by omega
                    have hlj : j < (freeL S).length := by rw [HF.out]; exact hjf
                    have hgj := List.getElem?_eq_getElem hlj
                    have hmem := List.getElem_mem hlj
                    generalize (freeL S)[j] = n at *
                    have hn16 : n < 16 := List.mem_range.1 (List.mem_filter.1 hmem).1
                    have hn16I : (n : Int) < 16 := by omega
                    have cj := at_cell HAt.out hgj
                    have c17 : wr.cell? ⟨gc, n, none⟩ = some (.int .i64 2) := by
                      have h2 := cntV_two HS.out HQ0.out hmem
                      rw [HF.out] at h2
                      rw [HPc.out.cell, cv_get _ _ _ _ hn16, h2]
                      rfl
                    clear hgj hmem hlj
                    go_wp2_with fail
                    go_roundg (gk - 1)
                    case measure => have := hj.out; omega
                    case rel => exact ⟨j + 1, (by go_num), Lib.hid (by have := hj.out; omega), rfl⟩
                  · clear hj
                    have hl0 : 0 < (freeL S).length := by rw [HF.out]; exact hpf
                    have hg0 := List.getElem?_eq_getElem hl0
                    have hmem := List.getElem_mem hl0
                    generalize (freeL S)[0] = n at *
                    have c0 := at_cell HAt.out hg0
                    have hpI : (0 : Int) < (f : Int) := by omega
                    obtain ⟨e1, e2, e3⟩ := last_one HS.out HQ0.out hmem
                    rw [HF.out] at e1 e2 e3
                    have hn16 : n < 16 := List.mem_range.1 (List.mem_filter.1 hmem).1
                    have hok := vst_ok HS.out (f + 2 * f)
                    have hGc := get_any wr b m HC.out.pool hok (n : Int) (by unfold I64; omega)
                    rw [e1] at hGc
                    have HO := Lib.hid (getS_fok hok (n : Int))
                    have hGok := getS_ok hok (n : Int)
                    have HGk := Lib.hid hGok
                    have HE2 := Lib.hid e2
                    have HE3 := Lib.hid e3
                    have HGc := Lib.hid hGc
                    have HG0 := Lib.hid hg0
                    clear e1 e2 e3 hGc hok hGok hg0 hmem hl0
                    generalize (getS (vst (f + 2 * f) S) (n : Int)).1.1 = F at *
                    generalize (getS (vst (f + 2 * f) S) (n : Int)).2 = S4 at *
                    go_wp2_with fail
                    refine HGc.out.mono ?_
                    rintro e w5 ⟨rfl, h1, hx1⟩
                    have hbn : Below w5.heap.size w5 (w5.alloc (.cells (fA F) 39)) := (Below.refl _ _).alloc (Nat.le_refl _) _
                    have HC5 := Lib.hid ((HC.out.step hB hBW h1 hx1).later hBW hbn)
                    have hA5 : At w5 (some ⟨g, 0, none⟩) (iv (freeL S)) := Up.bytes HAt.out (fun ad e => by injection e with e; subst e; exact fun e => e.elim hngb.1 hngb.2) w5 hx1
                    have HA5 := Lib.hid (hA5.mono hbn)
                    clear h1 hx1 hA5 hbn c0 HGc
                    go_upto_region 42 with (refine wpList_store_row rfl 39 (.tmp 22) (.tmp 156) rfl _ (fA F) rfl rfl 39 _ (heap_alloc_new _ (.cells (fA fr0) 39)) (infoFrA HO.out) (fA_size fr0_ok HO.out) (fv_all _) ?_; rw [World.setRow_alloc_new])
                    generalize w5.alloc (.cells (fA F) 39) = w6 at *
                    have hVc := victim_any w6 b m HC5.out.pool HGk.out
                    rw [HE2.out] at hVc
                    have HVc := Lib.hid hVc
                    have HE3' : Hid ((victimS S4).1.1 ≠ (n : Int) ∨ f = 1) := HE3
                    clear hVc
                    generalize (victimS S4).1.1 = V at *
                    generalize (victimS S4).2 = S5 at *
                    go_wp2_with fail
                    refine HVc.out.mono ?_
                    rintro e w7 ⟨rfl, h1, hx1⟩
                    have HC7 := Lib.hid (HC5.out.step hB hBW h1 hx1)
                    have hA7 : At w7 (some ⟨g, 0, none⟩) (iv (freeL S)) := Up.bytes HA5.out (fun ad e => by injection e with e; subst e; exact fun e => e.elim hngb.1 hngb.2) w7 hx1
                    have HA7 := Lib.hid hA7
                    clear h1 hx1 HVc hA7
                    have c0 := at_cell HA7.out HG0.out
                    by_cases hVn : V = (n : Int)
                    · have hne : (V != (n : Int)) = false := by simp [hVn]
                      have hf1 : f = 1 := HE3'.out.resolve_left (fun h => h hVn)
                      have hf1b : ((f : Int) == 1) = true := by simp [hf1]
                      clear hVn hf1
                      go_wp2_with fail
                      refine (num_any _ _).mono ?_
                      rintro e w' ⟨rfl, rfl⟩
                      go_wp2_with fail
                      rw [HQ.out]
                      go_ret
                      exact ⟨rfl, HC7.out.below⟩
                    · have hne : (V != (n : Int)) = true := by simp [hVn]
                      clear hVn
                      go_wp2_with fail
                      refine (num_any _ _).mono ?_
                      rintro e w' ⟨rfl, rfl⟩
                      go_wp2_with fail
                      rw [HQ.out]
                      go_ret
                      exact ⟨rfl, HC7.out.below⟩
end Go.Proofs.Ytjbjfpbhacpeiaa
