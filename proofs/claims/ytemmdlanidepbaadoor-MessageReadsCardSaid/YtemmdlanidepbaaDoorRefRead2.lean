/- The walk of millpondref18.Read. -/
import Derived.Test.YtemmdlanidepbaaDoorRefRead
namespace Go.Proofs.YtemmdlanidepbaaDoor
open Go.RowKit
set_option linter.unusedSimpArgs false
set_option maxRecDepth 100000

set_option maxHeartbeats 16000000 in
theorem refRead_walk (A : Option Addr) (c : Nat) (l : List UInt8) (w : World) (hA : At w A (bv l)) (hl : l.length ≤ 256) (hc : l.length ≤ c) (hblk : ∀ ad, A = some ad → ad.block < w.heap.size) :
    Calls Tryd.prog 16 #[.slice A l.length c] w (ReadR w (readV l)) := by
  have hl3 : ¬ 256 < l.length := by omega
  have HBK := Lib.hid hblk
  have HA := Lib.hid hA
  have HLC := Lib.hid hc
  clear hblk hA hc
  have hb0 : Below w.heap.size w (((w.alloc (.cells Tryd.zeroCells27 27)).alloc (.cells #[.slice A l.length c, .int .i64 0] 93)).alloc (.cells #[.pointer (some ⟨w.heap.size + 1, 0, none⟩), .bool false] 95)) :=
    ((((Below.refl _ _).alloc (Nat.le_refl _) _).alloc (by simp) _).alloc (by simp; omega) _)
  have HX0 : Hid (XR (((w.alloc (.cells Tryd.zeroCells27 27)).alloc (.cells #[.slice A l.length c, .int .i64 0] 93)).alloc (.cells #[.pointer (some ⟨w.heap.size + 1, 0, none⟩), .bool false] 95)) (w.heap.size + 1 + 1) (w.heap.size + 1) A c l 0 false) := by
    refine ⟨?_, ⟨?_, HA.out.mono hb0, Nat.zero_le _, by omega, HLC.out, fun ad e h => ?_⟩, by omega, fun ad e h => ?_⟩
    · have := heap_alloc_new ((w.alloc (.cells Tryd.zeroCells27 27)).alloc (.cells #[.slice A l.length c, .int .i64 0] 93)) (.cells #[.pointer (some ⟨w.heap.size + 1, 0, none⟩), .bool false] 95)
      simpa using this
    · rw [heap_alloc_old _ _ (by simp)]
      exact heap_alloc2_new w _ _
    · have := HBK.out ad e
      omega
    · have := HBK.out ad e
      omega
  have HZ0 : Hid ((((w.alloc (.cells Tryd.zeroCells27 27)).alloc (.cells #[.slice A l.length c, .int .i64 0] 93)).alloc (.cells #[.pointer (some ⟨w.heap.size + 1, 0, none⟩), .bool false] 95)).heap[w.heap.size]? = some (.cells Tryd.zeroCells27 27 (0, 0))) := by
    show _ = _
    rw [heap_alloc_old _ _ (by simp; omega)]
    exact heap_alloc2_old w _ _
  have hs0 : w.heap.size + 1 + 1 < (((w.alloc (.cells Tryd.zeroCells27 27)).alloc (.cells #[.slice A l.length c, .int .i64 0] 93)).alloc (.cells #[.pointer (some ⟨w.heap.size + 1, 0, none⟩), .bool false] 95)).heap.size := by simp
  have HB0 := Lib.hid hb0
  clear hb0
  go_enter Tryd.func16, Tryd.ntmps16
  go_wp2_with fail
  generalize ((w.alloc (.cells Tryd.zeroCells27 27)).alloc (.cells #[.slice A l.length c, .int .i64 0] 93)).alloc (.cells #[.pointer (some ⟨w.heap.size + 1, 0, none⟩), .bool false] 95) = w0 at *
  refine (first_any w0 (w.heap.size + 1 + 1) (w.heap.size + 1) A c l HX0.out).mono ?_
  rintro e w1 ⟨z, p0, bad0, rfl, hz, hx, hex, hpz⟩
  have HX1 := Lib.hid hx
  have HE1 := Lib.hid hex
  have HZ1 := Lib.hid ((hex.out.block w.heap.size (by omega) (by omega)).trans HZ0.out)
  have hs1 : w.heap.size + 1 + 1 < w1.heap.size := HX1.out.lt
  clear hx hex HX0 HZ0
  go_upto_region 5 with (refine wpList_store_row rfl 27 (.tmp 5) (.tmp 24) rfl w1.heap.size (Tryd.zeroCells27.setIfInBounds 0 (.int .i64 z)) rfl rfl 27 _ (heap_alloc_new w1 _) (set_info _) (Array.size_setIfInBounds ..).symm (set_all _) ?_)
  rw [World.setRow_alloc_new, zero_set]
  have hba := (Below.refl w1.heap.size w1).alloc (Nat.le_refl _) (.cells (mcells (bareM z)) 27)
  have HX2 := Lib.hid (HX1.out.below hba)
  have HZ2 := Lib.hid ((hba.block w.heap.size (by omega)).trans HZ1.out)
  have MB : Hid (MBlk (w1.alloc (.cells (mcells (bareM z)) 27)) w1.heap.size (bareM z)) := ⟨heap_alloc_new _ _⟩
  have HE2 := Lib.hid (HE1.out.trans (Ex.below hba))
  have c0 := MB.out.cell 0
  rw [(mcells_get (bareM z)).1] at c0
  have c0' : (w1.alloc (.cells (mcells (bareM z)) 27)).cell? ⟨w1.heap.size, 0, none⟩ = some (.int .i64 z) := c0
  clear c0 hba HX1 HZ1 HE1
  generalize w1.alloc (.cells (mcells (bareM z)) 27) = w2 at *
  generalize w1.heap.size = b5 at *
  go_wp2_with fail
  refine (rFieldsO'_any z _).mono ?_
  obtain ⟨F, hF⟩ : ∃ F, F = fieldsOf z := ⟨_, rfl⟩
  have hFl : F.length ≤ 6 := by rw [hF]; exact fieldsOf_len _
  rw [← hF] at hpz ⊢
  have hfr0 : Hid (∀ f ∈ F, f = 1 ∨ f = 2 ∨ f = 3 ∨ f = 4 ∨ f = 5 ∨ f = 6 ∨ f = 7) := Lib.hid (fun f hf => fields_range (k := z) (f := f) (by rw [← hF]; exact hf))
  have HNK : Hid (z = 0 → F.length = 0) := Lib.hid (fun e => by rw [hF, e]; rfl)
  clear hF
  rintro e w3 ⟨AF, cF, rfl, ho, hb⟩
  have hs2 := MB.out.lt
  have HAF := Lib.hid (own_at ho)
  have HAFB : Hid (∀ ad, AF = some ad → b5 < ad.block) := Lib.hid (fun ad e => by
    subst e
    have := ho.2
    rcases this with ⟨h1, _⟩ | ⟨gq, cap, cur, h1, h2, _⟩
    · cases h1
    · injection h1 with h1
      injection h1 with h1
      subst h1
      exact Nat.lt_of_lt_of_le hs2 h2)
  have HX3 := Lib.hid (HX2.out.below hb)
  have HM3 : Hid (MBlk w3 b5 (bareM z)) := MB.out.move (grown_of_below hb none) (by simp)
  have HE3 := Lib.hid (HE2.out.trans (Ex.below hb))
  have HZ3 := Lib.hid ((hb.block w.heap.size (by omega)).trans HZ2.out)
  have hs3 : b5 < w3.heap.size := HM3.out.lt
  clear ho hb MB HX2 HZ2 HE2 c0' hs2
  go_wp2_with fail
  go_loopg [7] F.length (fun kk i wr => ∃ (j : Nat) (m0 : Msg) (p : Nat) (bad : Bool), i = .int .i64 (j : Int) ∧ Hid (j + kk = F.length ∧ j ≤ F.length ∧ m0.body.length = 96) ∧ Hid (XR wr (w.heap.size + 1 + 1) (w.heap.size + 1) A c l p bad) ∧ Hid (MBlk wr b5 m0) ∧
    Hid (Ex (fun k => k = w.heap.size + 1 ∨ k = w.heap.size + 1 + 1 ∨ k = b5) w3 wr) ∧ Hid (bad = true ∧ parse l = none ∨ bad = false ∧ rdFields (F.drop j) m0 l p = parse l))
  case atStart => exact ⟨0, bareM z, p0, bad0, rfl, ⟨Nat.zero_add _, Nat.zero_le _, by simp [-List.reduceReplicate, bareM]⟩, HX3, HM3, Ex.refl _ _, hpz.out.elim (fun h => Or.inl ⟨h.1, h.2.1⟩) Or.inr⟩
  case round =>
    clear HX3 HM3 hpz
    obtain ⟨j, m0, p, bad, rfl, hj, HX, HM, HE, HP⟩ := hrel
    have HZ := Lib.hid ((HE.out.block w.heap.size (by omega) (by omega)).trans HZ3.out)
    have x1 := HX.out.cell1
    have BEND : Hid (Below w.heap.size w wr) := Lib.hid (HB0.out.trans (below_of_ex (T := fun k => k = w.heap.size + 1 ∨ k = w.heap.size + 1 + 1 ∨ k = b5) ((ex3 HE3.out).trans HE.out) (fun k hk => by omega) (by omega)))
    cases bad with
    | true =>
      have HV : Hid (readV l = (Tryd.zeroCells27, 4)) := Lib.hid (readV_400 hl (HP.out.elim (fun h => h.2) (fun h => by cases h.1)))
      by_cases hlt : j < F.length
      · skip
        go_wp2_with fail
        refine wp_region_seq (fun _ => False) [] [(0, true), (1, true), (2, true), (3, true), (4, true), (5, true), (6, false), (7, true), (8, true), (9, true), (10, true), (13, true), (14, true), (11, false), (12, true), (15, true), (16, true)] (by kernel_rfl) (by kernel_rfl) (fun _ _ d _ _ h => by cases d <;> exact h) rfl (by kernel_rfl) ?_
        have U : Up (fun _ => False) wr.drew (fun u => u.cell? ⟨w.heap.size + 1 + 1, 1, none⟩ = some (.bool true)) := Up.cell (by simpa using x1) (fun h => h)
        refine seq_at (some 127) (v := ?_) rfl (by kernel_rfl) (by kernel_rfl) ?_ ?_
        rotate_left
        · intro w' hw'
          go_simp
          try with_reducible rfl
        simp only [Act.put, List.setIfInBounds_toArray, List.set_cons_zero, List.set_cons_succ]
        refine seq_at (some 128) (v := ?_) rfl (by kernel_rfl) (by kernel_rfl) ?_ ?_
        rotate_left
        · intro w' hw'
          go_simp
          try with_reducible rfl
        simp only [Act.put, List.setIfInBounds_toArray, List.set_cons_zero, List.set_cons_succ]
        refine seq_at (some 129) (v := ?_) rfl (by kernel_rfl) (by kernel_rfl) ?_ ?_
        rotate_left
        · intro w' hw'
          go_simp
          try with_reducible rfl
        simp only [Act.put, List.setIfInBounds_toArray, List.set_cons_zero, List.set_cons_succ]
        refine seq_at (some 130) (v := ?_) rfl (by kernel_rfl) (by kernel_rfl) ?_ ?_
        rotate_left
        · intro w' hw'
          obtain q0 := U w' hw'
          go_simp
          try with_reducible rfl
        simp only [Act.put, List.setIfInBounds_toArray, List.set_cons_zero, List.set_cons_succ]
        refine seq_at (some 131) (v := ?_) rfl (by kernel_rfl) (by kernel_rfl) ?_ ?_
        rotate_left
        · intro w' hw'
          go_simp
          try with_reducible rfl
        simp only [Act.put, List.setIfInBounds_toArray, List.set_cons_zero, List.set_cons_succ]
        refine seq_skip (some 132) rfl (by kernel_rfl) (by kernel_rfl) ?_
        simp only [Act.put, List.setIfInBounds_toArray, List.set_cons_zero, List.set_cons_succ]
        refine seq_skip (some 133) rfl (by kernel_rfl) (by kernel_rfl) ?_
        simp only [Act.put, List.setIfInBounds_toArray, List.set_cons_zero, List.set_cons_succ]
        refine seq_skip (some 134) rfl (by kernel_rfl) (by kernel_rfl) ?_
        simp only [Act.put, List.setIfInBounds_toArray, List.set_cons_zero, List.set_cons_succ]
        refine seq_at (some 135) (v := ?_) rfl (by kernel_rfl) (by kernel_rfl) ?_ ?_
        rotate_left
        · intro w' hw'
          go_simp
          try with_reducible rfl
        simp only [Act.put, List.setIfInBounds_toArray, List.set_cons_zero, List.set_cons_succ]
        refine seq_at (some 136) (v := ?_) rfl (by kernel_rfl) (by kernel_rfl) ?_ ?_
        rotate_left
        · intro w' hw'
          go_simp
          try with_reducible rfl
        simp only [Act.put, List.setIfInBounds_toArray, List.set_cons_zero, List.set_cons_succ]
        refine seq_skip (some 137) rfl (by kernel_rfl) (by kernel_rfl) ?_
        simp only [Act.put, List.setIfInBounds_toArray, List.set_cons_zero, List.set_cons_succ]
        refine seq_skip (some 140) rfl (by kernel_rfl) (by kernel_rfl) ?_
        simp only [Act.put, List.setIfInBounds_toArray, List.set_cons_zero, List.set_cons_succ]
        refine seq_skip (some 141) rfl (by kernel_rfl) (by kernel_rfl) ?_
        simp only [Act.put, List.setIfInBounds_toArray, List.set_cons_zero, List.set_cons_succ]
        refine seq_skip (some 138) rfl (by kernel_rfl) (by kernel_rfl) ?_
        simp only [Act.put, List.setIfInBounds_toArray, List.set_cons_zero, List.set_cons_succ]
        refine seq_skip (some 139) rfl (by kernel_rfl) (by kernel_rfl) ?_
        simp only [Act.put, List.setIfInBounds_toArray, List.set_cons_zero, List.set_cons_succ]
        refine seq_skip (some 142) rfl (by kernel_rfl) (by kernel_rfl) ?_
        simp only [Act.put, List.setIfInBounds_toArray, List.set_cons_zero, List.set_cons_succ]
        refine seq_at (some 143) (v := ?_) rfl (by kernel_rfl) (by kernel_rfl) ?_ ?_
        rotate_left
        · intro w' hw'
          go_simp
          try with_reducible rfl
        simp only [Act.put, List.setIfInBounds_toArray, List.set_cons_zero, List.set_cons_succ]
        refine seq_nil ?_
        have HZD : Hid (wr.drew.heap[w.heap.size]? = some (.cells Tryd.zeroCells27 27 (0, 0))) := HZ.out
        have BED : Hid (Below w.heap.size w wr.drew) := BEND.out.drew
        generalize wr.drew = wd at *
        go_wp2_with (refine wpList_store_row rfl 27 (.tmp 2) (.tmp 144) rfl w.heap.size Tryd.zeroCells27 rfl rfl 27 _ HZD.out zero_info rfl zero_all ?_)
        rw [HV.out]
        exact refRead_end rfl rfl rfl zero_size (setRow_at HZD.out) (Bl.grown BED.out (setRow_grown _ _ _) (fun k hk => by injection hk with hk; omega))
      · skip
        go_wp2_with fail
        refine wp_region_seq (fun _ => False) [] [(0, true), (1, true), (2, true), (3, true), (4, true), (5, true), (6, false), (7, true), (8, true), (9, true), (10, true), (13, true), (14, true), (11, false), (12, true), (15, true), (16, true)] (by kernel_rfl) (by kernel_rfl) (fun _ _ d _ _ h => by cases d <;> exact h) rfl (by kernel_rfl) ?_
        have U : Up (fun _ => False) wr.drew (fun u => u.cell? ⟨w.heap.size + 1 + 1, 1, none⟩ = some (.bool true)) := Up.cell (by simpa using x1) (fun h => h)
        refine seq_at (some 127) (v := ?_) rfl (by kernel_rfl) (by kernel_rfl) ?_ ?_
        rotate_left
        · intro w' hw'
          go_simp
          try with_reducible rfl
        simp only [Act.put, List.setIfInBounds_toArray, List.set_cons_zero, List.set_cons_succ]
        refine seq_at (some 128) (v := ?_) rfl (by kernel_rfl) (by kernel_rfl) ?_ ?_
        rotate_left
        · intro w' hw'
          go_simp
          try with_reducible rfl
        simp only [Act.put, List.setIfInBounds_toArray, List.set_cons_zero, List.set_cons_succ]
        refine seq_at (some 129) (v := ?_) rfl (by kernel_rfl) (by kernel_rfl) ?_ ?_
        rotate_left
        · intro w' hw'
          go_simp
          try with_reducible rfl
        simp only [Act.put, List.setIfInBounds_toArray, List.set_cons_zero, List.set_cons_succ]
        refine seq_at (some 130) (v := ?_) rfl (by kernel_rfl) (by kernel_rfl) ?_ ?_
        rotate_left
        · intro w' hw'
          obtain q0 := U w' hw'
          go_simp
          try with_reducible rfl
        simp only [Act.put, List.setIfInBounds_toArray, List.set_cons_zero, List.set_cons_succ]
        refine seq_at (some 131) (v := ?_) rfl (by kernel_rfl) (by kernel_rfl) ?_ ?_
        rotate_left
        · intro w' hw'
          go_simp
          try with_reducible rfl
        simp only [Act.put, List.setIfInBounds_toArray, List.set_cons_zero, List.set_cons_succ]
        refine seq_skip (some 132) rfl (by kernel_rfl) (by kernel_rfl) ?_
        simp only [Act.put, List.setIfInBounds_toArray, List.set_cons_zero, List.set_cons_succ]
        refine seq_skip (some 133) rfl (by kernel_rfl) (by kernel_rfl) ?_
        simp only [Act.put, List.setIfInBounds_toArray, List.set_cons_zero, List.set_cons_succ]
        refine seq_skip (some 134) rfl (by kernel_rfl) (by kernel_rfl) ?_
        simp only [Act.put, List.setIfInBounds_toArray, List.set_cons_zero, List.set_cons_succ]
        refine seq_at (some 135) (v := ?_) rfl (by kernel_rfl) (by kernel_rfl) ?_ ?_
        rotate_left
        · intro w' hw'
          go_simp
          try with_reducible rfl
        simp only [Act.put, List.setIfInBounds_toArray, List.set_cons_zero, List.set_cons_succ]
        refine seq_at (some 136) (v := ?_) rfl (by kernel_rfl) (by kernel_rfl) ?_ ?_
        rotate_left
        · intro w' hw'
          go_simp
          try with_reducible rfl
        simp only [Act.put, List.setIfInBounds_toArray, List.set_cons_zero, List.set_cons_succ]
        refine seq_skip (some 137) rfl (by kernel_rfl) (by kernel_rfl) ?_
        simp only [Act.put, List.setIfInBounds_toArray, List.set_cons_zero, List.set_cons_succ]
        refine seq_skip (some 140) rfl (by kernel_rfl) (by kernel_rfl) ?_
        simp only [Act.put, List.setIfInBounds_toArray, List.set_cons_zero, List.set_cons_succ]
        refine seq_skip (some 141) rfl (by kernel_rfl) (by kernel_rfl) ?_
        simp only [Act.put, List.setIfInBounds_toArray, List.set_cons_zero, List.set_cons_succ]
        refine seq_skip (some 138) rfl (by kernel_rfl) (by kernel_rfl) ?_
        simp only [Act.put, List.setIfInBounds_toArray, List.set_cons_zero, List.set_cons_succ]
        refine seq_skip (some 139) rfl (by kernel_rfl) (by kernel_rfl) ?_
        simp only [Act.put, List.setIfInBounds_toArray, List.set_cons_zero, List.set_cons_succ]
        refine seq_skip (some 142) rfl (by kernel_rfl) (by kernel_rfl) ?_
        simp only [Act.put, List.setIfInBounds_toArray, List.set_cons_zero, List.set_cons_succ]
        refine seq_at (some 143) (v := ?_) rfl (by kernel_rfl) (by kernel_rfl) ?_ ?_
        rotate_left
        · intro w' hw'
          go_simp
          try with_reducible rfl
        simp only [Act.put, List.setIfInBounds_toArray, List.set_cons_zero, List.set_cons_succ]
        refine seq_nil ?_
        have HZD : Hid (wr.drew.heap[w.heap.size]? = some (.cells Tryd.zeroCells27 27 (0, 0))) := HZ.out
        have BED : Hid (Below w.heap.size w wr.drew) := BEND.out.drew
        generalize wr.drew = wd at *
        go_wp2_with (refine wpList_store_row rfl 27 (.tmp 2) (.tmp 144) rfl w.heap.size Tryd.zeroCells27 rfl rfl 27 _ HZD.out zero_info rfl zero_all ?_)
        rw [HV.out]
        exact refRead_end rfl rfl rfl zero_size (setRow_at HZD.out) (Bl.grown BED.out (setRow_grown _ _ _) (fun k hk => by injection hk with hk; omega))
    | false =>
      have HR := Lib.hid (HP.out.elim (fun h => by cases h.1) (fun h => h.2))
      clear HP
      by_cases hlt : j < F.length
      · obtain ⟨f, hf⟩ : ∃ f, F[j] = f := ⟨_, rfl⟩
        have hfr := hfr0.out f (by rw [← hf]; exact List.getElem_mem hlt)
        have HR2 := Lib.hid (show rdFields (f :: F.drop (j + 1)) m0 l p = parse l by rw [← hf, ← List.drop_eq_getElem_cons hlt]; exact HR.out)
        have HAr := Lib.hid (Up.bytes (T := fun k => k = w.heap.size + 1 ∨ k = w.heap.size + 1 + 1 ∨ k = b5) HAF.out (fun ad e h => by have := HAFB.out ad e; omega) wr HE.out)
        obtain ⟨ad, hAe, hcell⟩ := HAr.out j (.int .i64 f) (by simp [iv, List.getElem?_eq_getElem hlt, hf])
        subst hAe
        clear hf HR
        rcases hfr with rfl | rfl | rfl | rfl | rfl | rfl | rfl
        · go_wp2_with fail
          refine (next_any wr (w.heap.size + 1 + 1) (w.heap.size + 1) A c l p HX.out).mono ?_
          rintro e w4 ⟨y, p4, bad4, rfl, hx4, hex4, hp4⟩
          have HM4 : Hid (MBlk w4 b5 m0) := ⟨(hex4.out.block b5 HM.out.lt (by omega)).trans HM.out.blk⟩
          have e1 := HM4.out.cell 1
          rw [(mcells_get m0).2.1] at e1
          have f1 := HM4.out.free 1
          have hst := grown_set w4 b5 1 (.int .i64 y)
          have HX4 := Lib.hid (hx4.move hst (fun e => by injection e with e; omega) (fun e => by injection e with e; omega) (fun ad e q => by injection q with q; have := HBK.out ad e; omega))
          have HE4 := Lib.hid ((HE.out.trans (ex3 hex4.out)).trans (ex_b hst))
          have HM5 := Lib.hid (HM4.out.set (mset1 m0 y))
          have HP5 : Hid (bad4 = true ∧ parse l = none ∨ bad4 = false ∧ rdFields (F.drop (j + 1)) { m0 with page := y } l p4 = parse l) := Lib.hid (by
            rcases hp4.out with ⟨h1, h2⟩ | ⟨h1, h2⟩
            · refine .inl ⟨h1, ?_⟩
              rw [← HR2.out]
              simp [rdFields, rdField, h2]
            · refine .inr ⟨h1, ?_⟩
              rw [← HR2.out]
              simp [rdFields, rdField, h2])
          clear hx4 hex4 hp4 hst hcell x1 HM4
          go_wp2_with fail
          go_roundg (gk - 1)
          case measure => have := hj.out; omega
          case rel => exact ⟨j + 1, { m0 with page := y }, p4, bad4, (by go_num), ⟨(by have := hj.out; omega), (by omega), hj.out.2.2⟩, HX4, HM5, HE4, HP5⟩
        · go_wp2_with fail
          refine (next_any wr (w.heap.size + 1 + 1) (w.heap.size + 1) A c l p HX.out).mono ?_
          rintro e w4 ⟨y, p4, bad4, rfl, hx4, hex4, hp4⟩
          have HM4 : Hid (MBlk w4 b5 m0) := ⟨(hex4.out.block b5 HM.out.lt (by omega)).trans HM.out.blk⟩
          have e1 := HM4.out.cell 2
          rw [(mcells_get m0).2.2.1] at e1
          have f1 := HM4.out.free 2
          have hst := grown_set w4 b5 2 (.int .i64 y)
          have HX4 := Lib.hid (hx4.move hst (fun e => by injection e with e; omega) (fun e => by injection e with e; omega) (fun ad e q => by injection q with q; have := HBK.out ad e; omega))
          have HE4 := Lib.hid ((HE.out.trans (ex3 hex4.out)).trans (ex_b hst))
          have HM5 := Lib.hid (HM4.out.set (mset2 m0 y))
          have HP5 : Hid (bad4 = true ∧ parse l = none ∨ bad4 = false ∧ rdFields (F.drop (j + 1)) { m0 with op := y } l p4 = parse l) := Lib.hid (by
            rcases hp4.out with ⟨h1, h2⟩ | ⟨h1, h2⟩
            · refine .inl ⟨h1, ?_⟩
              rw [← HR2.out]
              simp [rdFields, rdField, h2]
            · refine .inr ⟨h1, ?_⟩
              rw [← HR2.out]
              simp [rdFields, rdField, h2])
          clear hx4 hex4 hp4 hst hcell x1 HM4
          go_wp2_with fail
          go_roundg (gk - 1)
          case measure => have := hj.out; omega
          case rel => exact ⟨j + 1, { m0 with op := y }, p4, bad4, (by go_num), ⟨(by have := hj.out; omega), (by omega), hj.out.2.2⟩, HX4, HM5, HE4, HP5⟩
        · go_wp2_with fail
          refine (next_any wr (w.heap.size + 1 + 1) (w.heap.size + 1) A c l p HX.out).mono ?_
          rintro e w4 ⟨y, p4, bad4, rfl, hx4, hex4, hp4⟩
          have HM4 : Hid (MBlk w4 b5 m0) := ⟨(hex4.out.block b5 HM.out.lt (by omega)).trans HM.out.blk⟩
          have e1 := HM4.out.cell 3
          rw [(mcells_get m0).2.2.2.1] at e1
          have f1 := HM4.out.free 3
          have hst := grown_set w4 b5 3 (.int .i64 y)
          have HX4 := Lib.hid (hx4.move hst (fun e => by injection e with e; omega) (fun e => by injection e with e; omega) (fun ad e q => by injection q with q; have := HBK.out ad e; omega))
          have HE4 := Lib.hid ((HE.out.trans (ex3 hex4.out)).trans (ex_b hst))
          have HM5 := Lib.hid (HM4.out.set (mset3 m0 y))
          have HP5 : Hid (bad4 = true ∧ parse l = none ∨ bad4 = false ∧ rdFields (F.drop (j + 1)) { m0 with mode := y } l p4 = parse l) := Lib.hid (by
            rcases hp4.out with ⟨h1, h2⟩ | ⟨h1, h2⟩
            · refine .inl ⟨h1, ?_⟩
              rw [← HR2.out]
              simp [rdFields, rdField, h2]
            · refine .inr ⟨h1, ?_⟩
              rw [← HR2.out]
              simp [rdFields, rdField, h2])
          clear hx4 hex4 hp4 hst hcell x1 HM4
          go_wp2_with fail
          go_roundg (gk - 1)
          case measure => have := hj.out; omega
          case rel => exact ⟨j + 1, { m0 with mode := y }, p4, bad4, (by go_num), ⟨(by have := hj.out; omega), (by omega), hj.out.2.2⟩, HX4, HM5, HE4, HP5⟩
        · go_wp2_with fail
          refine (next_any wr (w.heap.size + 1 + 1) (w.heap.size + 1) A c l p HX.out).mono ?_
          rintro e w4 ⟨y, p4, bad4, rfl, hx4, hex4, hp4⟩
          have HM4 : Hid (MBlk w4 b5 m0) := ⟨(hex4.out.block b5 HM.out.lt (by omega)).trans HM.out.blk⟩
          have e1 := HM4.out.cell 4
          rw [(mcells_get m0).2.2.2.2.1] at e1
          have f1 := HM4.out.free 4
          have hst := grown_set w4 b5 4 (.int .i64 y)
          have HX4 := Lib.hid (hx4.move hst (fun e => by injection e with e; omega) (fun e => by injection e with e; omega) (fun ad e q => by injection q with q; have := HBK.out ad e; omega))
          have HE4 := Lib.hid ((HE.out.trans (ex3 hex4.out)).trans (ex_b hst))
          have HM5 := Lib.hid (HM4.out.set (mset4 m0 y))
          have HP5 : Hid (bad4 = true ∧ parse l = none ∨ bad4 = false ∧ rdFields (F.drop (j + 1)) { m0 with dest := y } l p4 = parse l) := Lib.hid (by
            rcases hp4.out with ⟨h1, h2⟩ | ⟨h1, h2⟩
            · refine .inl ⟨h1, ?_⟩
              rw [← HR2.out]
              simp [rdFields, rdField, h2]
            · refine .inr ⟨h1, ?_⟩
              rw [← HR2.out]
              simp [rdFields, rdField, h2])
          clear hx4 hex4 hp4 hst hcell x1 HM4
          go_wp2_with fail
          go_roundg (gk - 1)
          case measure => have := hj.out; omega
          case rel => exact ⟨j + 1, { m0 with dest := y }, p4, bad4, (by go_num), ⟨(by have := hj.out; omega), (by omega), hj.out.2.2⟩, HX4, HM5, HE4, HP5⟩
        · go_wp2_with fail
          refine (next_any wr (w.heap.size + 1 + 1) (w.heap.size + 1) A c l p HX.out).mono ?_
          rintro e w4 ⟨y, p4, bad4, rfl, hx4, hex4, hp4⟩
          have HM4 : Hid (MBlk w4 b5 m0) := ⟨(hex4.out.block b5 HM.out.lt (by omega)).trans HM.out.blk⟩
          have e1 := HM4.out.cell 5
          rw [(mcells_get m0).2.2.2.2.2.1] at e1
          have f1 := HM4.out.free 5
          have hst := grown_set w4 b5 5 (.int .i64 y)
          have HX4 := Lib.hid (hx4.move hst (fun e => by injection e with e; omega) (fun e => by injection e with e; omega) (fun ad e q => by injection q with q; have := HBK.out ad e; omega))
          have HE4 := Lib.hid ((HE.out.trans (ex3 hex4.out)).trans (ex_b hst))
          have HM5 := Lib.hid (HM4.out.set (mset5 m0 y))
          have HP5 : Hid (bad4 = true ∧ parse l = none ∨ bad4 = false ∧ rdFields (F.drop (j + 1)) { m0 with psn := y } l p4 = parse l) := Lib.hid (by
            rcases hp4.out with ⟨h1, h2⟩ | ⟨h1, h2⟩
            · refine .inl ⟨h1, ?_⟩
              rw [← HR2.out]
              simp [rdFields, rdField, h2]
            · refine .inr ⟨h1, ?_⟩
              rw [← HR2.out]
              simp [rdFields, rdField, h2])
          clear hx4 hex4 hp4 hst hcell x1 HM4
          go_wp2_with fail
          go_roundg (gk - 1)
          case measure => have := hj.out; omega
          case rel => exact ⟨j + 1, { m0 with psn := y }, p4, bad4, (by go_num), ⟨(by have := hj.out; omega), (by omega), hj.out.2.2⟩, HX4, HM5, HE4, HP5⟩
        · have x0 := HX.out.cell0
          go_wp2_with fail
          refine (nextF_any wr (w.heap.size + 1) A c l p HX.out.rdr).mono ?_
          rintro e w4 ⟨b, p4, q, rfl, hr4, hg4, hq⟩
          have hx4 := HX.out.read hr4 hg4.out
          have HM4 := HM.out.move hg4.out (fun e => by injection e with e; omega)
          have e1 := HM4.cell 6
          rw [(mcells_get m0).2.2.2.2.2.2] at e1
          have f1 := HM4.free 6
          have hst := grown_set w4 b5 6 (.bool b)
          have HX4 := Lib.hid (hx4.move hst (fun e => by injection e with e; omega) (fun e => by injection e with e; omega) (fun ad e q => by injection q with q; have := HBK.out ad e; omega))
          have HE4 := Lib.hid ((HE.out.trans (ex3 (ex_g hg4.out))).trans (ex_b hst))
          have HM5 := Lib.hid (HM4.set (mset6 m0 b))
          have HP5 : Hid ((q != 0) = true ∧ parse l = none ∨ (q != 0) = false ∧ rdFields (F.drop (j + 1)) { m0 with dirty := b } l p4 = parse l) := Lib.hid (by
            rcases hq.out with ⟨h1, h2⟩ | ⟨h1, h2⟩
            · refine .inl ⟨by rw [h1]; rfl, ?_⟩
              rw [← HR2.out]
              simp [rdFields, rdField, h2]
            · refine .inr ⟨by rw [h1]; rfl, ?_⟩
              rw [← HR2.out]
              simp [rdFields, rdField, h2])
          clear hx4 hr4 hg4 hq hst hcell x1 x0 HM4
          go_upto_region 23 with (fail)
          generalize w4.setCell ⟨b5, 6, none⟩ (.bool b) = w5 at *
          have x1 := HX4.out.cell1
          have f1 := HX4.out.free 1
          have hst := grown_set w5 (w.heap.size + 1 + 1) 1 (.bool (q != 0))
          have HM6 := Lib.hid (HM5.out.move hst (fun e => by injection e with e; omega))
          have HX6 := Lib.hid (HX4.out.spoil (q != 0))
          have HE6 := Lib.hid (HE4.out.trans (ex3 (ex_x (g := w.heap.size + 1) hst)))
          clear hst
          go_wp2_with fail
          go_roundg (gk - 1)
          case measure => have := hj.out; omega
          case rel => exact ⟨j + 1, { m0 with dirty := b }, p4, (q != 0), (by go_num), ⟨(by have := hj.out; omega), (by omega), hj.out.2.2⟩, HX6, HM6, HE6, HP5⟩
        · have x0 := HX.out.cell0
          have hs4 : b5 < wr.heap.size := HM.out.lt
          go_wp2_with fail
          refine (nextB_any wr (w.heap.size + 1) A c l p HX.out.rdr).mono ?_
          rintro e w4 ⟨v, news, p4, q, rfl, ho, hr4, hg4, hq⟩
          have HX4 := Lib.hid (HX.out.read hr4 hg4.out)
          have HM4 := Lib.hid (HM.out.move hg4.out (fun e => by injection e with e; omega))
          have x1' := HX4.out.cell1
          have f1 := HX4.out.free 1
          have hst := grown_set w4 (w.heap.size + 1 + 1) 1 (.bool (q != 0))
          have HM6 := Lib.hid (HM4.out.move hst (fun e => by injection e with e; omega))
          have HX6 := Lib.hid (HX4.out.spoil (q != 0))
          have HE6 := Lib.hid ((HE.out.trans (ex3 (ex_g hg4.out))).trans (ex3 (ex_x (g := w.heap.size + 1) hst)))
          have HP5 : Hid ((q != 0) = true ∧ parse l = none ∨ (q != 0) = false ∧ rdFields (F.drop (j + 1)) { m0 with body := news ++ m0.body.drop news.length } l p4 = parse l) := Lib.hid (by
            rcases hq.out.2 with ⟨h1, h2, _⟩ | ⟨h1, h2⟩
            · refine .inl ⟨by rcases h1 with h1 | h1 <;> rw [h1] <;> rfl, ?_⟩
              rw [← HR2.out]
              simp [rdFields, rdField, h2]
            · refine .inr ⟨by rw [h1]; rfl, ?_⟩
              rw [← HR2.out]
              simp [rdFields, rdField, h2])
          have hnl : news.length ≤ 96 := hq.out.1
          obtain ⟨Av, cv, rfl, _⟩ := own_form ho
          have HAV4 : Hid (∀ ad, Av = some ad → b5 < ad.block) := Lib.hid (fun ad e => by
            subst e
            rcases ho.2 with ⟨h1, _⟩ | ⟨gq, cap, cur, h1, h2, _⟩
            · cases h1
            · injection h1 with h1
              injection h1 with h1
              subst h1
              exact Nat.lt_of_lt_of_le hs4 h2)
          have HAN4 := Lib.hid (own_at ho)
          have HAN6 := Lib.hid (HAN4.out.grown hst (fun ad e => by
            intro h
            injection h with h
            subst e
            rcases ho.2 with ⟨h1, _⟩ | ⟨gq, cap, cur, h1, h2, _⟩
            · cases h1
            · injection h1 with h1
              injection h1 with h1
              subst h1
              have : wr.heap.size ≤ gq := h2
              have h' : gq = w.heap.size + 1 + 1 := h
              omega))
          clear hr4 hg4 hq hst hcell x1 x0 ho HM4 HX4 HAN4
          obtain ⟨ko, rfl⟩ : ∃ ko : Nat, ko = gk := ⟨_, rfl⟩
          go_upto_region 27 with (fail)
          generalize w4.setCell ⟨w.heap.size + 1 + 1, 1, none⟩ (.bool (q != 0)) = w6 at *
          clear HX HM HE HZ BEND x1' f1
          go_wp2_with fail
          go_loopg [12] news.length (fun kk i wq => ∃ s : Nat, i = .int .i64 (s : Int) ∧ Hid (s + kk = news.length ∧ s ≤ news.length) ∧ Hid (MBlk wq b5 { m0 with body := news.take s ++ m0.body.drop s }) ∧ Hid (w6.grownBy wq (some b5)))
          case atStart => exact ⟨0, rfl, ⟨Nat.zero_add _, Nat.zero_le _⟩, HM6, World.grownBy.refl _ _⟩
          case round =>
            obtain ⟨s, rfl, hs, HMq, HGq⟩ := hrel
            by_cases hsl : s < news.length
            · obtain ⟨nb, hnb⟩ : ∃ nb, news[s] = nb := ⟨_, rfl⟩
              have hAn := (HAN6.out.grown HGq.out (fun ad e => by have := HAV4.out ad e; intro h; injection h with h; omega)) s (.int .u8 (nb.toNat : Int)) (by simp [bv, List.getElem?_eq_getElem hsl, hnb])
              obtain ⟨adn, hAe, hcn⟩ := hAn
              subst hAe
              have hml : m0.body.length = 96 := hj.out.2.2
              have hstep := body_step (news := news) (B := m0.body) hsl (by omega)
              rw [hnb] at hstep
              have HST := Lib.hid hstep
              have hbl : (news.take s ++ m0.body.drop s).length = 96 := by rw [List.length_append, List.length_take, List.length_drop]; omega
              have e1 : ∃ ob : UInt8, _ := ⟨(news.take s ++ m0.body.drop s)[s]'(by omega), rfl⟩
              obtain ⟨ob, hob⟩ := e1
              have e1 : ‹World›.cell? ⟨b5, 7 + s, none⟩ = some (.int .u8 (ob.toNat : Int)) := by
                rw [HMq.out.cell, mcells_body]
                simp only [bv, List.getElem?_map, List.getElem?_eq_getElem (show s < (news.take s ++ m0.body.drop s).length by omega), Option.map_some, hob]
              have f1 := HMq.out.free (7 + s)
              have hs96 : s < 96 := by omega
              clear hnb hstep hob hml hbl
              go_wp2_with fail
              go_roundg (gk - 1)
              case measure => have := hs.out; omega
              case rel => exact ⟨s + 1, (by go_num), ⟨(by have := hs.out; omega), (by omega)⟩, (by rw [← HST.out]; exact HMq.out.set (mset_body _ _ _)), grown_trans HGq.out (grown_set _ _ _ _) (.inl rfl)⟩
            · have hse : s = news.length := by have := hs.out; omega
              have HMF : Hid (MBlk ‹World› b5 { m0 with body := news ++ m0.body.drop news.length }) := Lib.hid (by have h := HMq.out; rw [hse, List.take_of_length_le (Nat.le_refl _)] at h; exact h)
              have HXF := Lib.hid (HX6.out.move HGq.out (fun e => by injection e with e; omega) (fun e => by injection e with e; omega) (fun ad e q => by injection q with q; have := HBK.out ad e; omega))
              have HEF := Lib.hid (HE6.out.trans (ex_b (g := w.heap.size + 1) (x := w.heap.size + 1 + 1) HGq.out))
              clear hse
              go_wp2_with fail
              go_roundg (ko - 1)
              case measure => have := hj.out; omega
              case rel => exact ⟨j + 1, { m0 with body := news ++ m0.body.drop news.length }, p4, (q != 0), (by go_num), ⟨(by have := hj.out; omega), (by omega), (by have := hj.out.2.2; simp [this]; omega)⟩, HXF, HMF, HEF, HP5⟩
      · have hdr : F.drop j = [] := List.drop_eq_nil_of_le (by omega)
        have hpar : parse l = some (m0, p) := by rw [← HR.out, hdr]; rfl
        have hok := parse_ok hpar
        have HS := Lib.hid (mcells_size hok)
        have HAL := Lib.hid (mcells_all m0)
        have HMAY := Lib.hid (fun u => refMay_any m0 hok u)
        have HY := Lib.hid HM.out.blk
        clear hdr HR HM
        cases hyy : mayM m0 with
        | false =>
          have HYY := Lib.hid hyy
          have HV : Hid (readV l = (Tryd.zeroCells27, 4)) := Lib.hid (readV_none' hl (by rw [readM_ref, hpar]; simp [hyy]))
          clear hyy hpar
          obtain ⟨mc, hmc⟩ : ∃ mc, mc = mcells m0 := ⟨_, rfl⟩
          rw [← hmc] at HS HAL HMAY HY
          clear hmc
          go_wp2_with fail
          refine wp_region_seq (fun _ => False) [] [(0, true), (1, true), (2, true), (3, true), (4, true), (5, true), (6, false), (7, true), (8, true), (9, true), (10, true), (13, true), (14, true), (11, false), (12, true), (15, true), (16, true)] (by kernel_rfl) (by kernel_rfl) (fun _ _ d _ _ h => by cases d <;> exact h) rfl (by kernel_rfl) ?_
          have U : Up (fun _ => False) wr.drew (fun u => u.cell? ⟨w.heap.size + 1 + 1, 1, none⟩ = some (.bool false)) := Up.cell (by simpa using x1) (fun h => h)
          have hy : wr.drew.heap[b5]? = some (.cells mc 27 (0, 0)) := HY.out
          have UY := Lib.hid (Up.blk (T := fun _ => False) hy (fun h => h))
          have hzd : wr.drew.heap[w.heap.size]? = some (.cells Tryd.zeroCells27 27 (0, 0)) := HZ.out
          have UZ := Lib.hid (Up.blk (T := fun _ => False) hzd (fun h => h))
          have UA := Lib.hid (Up.bytes (T := fun _ => False) (w := wr.drew) (show At wr.drew A (bv l) from HX.out.rdr.bytes) (fun _ _ h => h))
          have BED : Hid (Below w.heap.size w wr.drew) := BEND.out.drew
          clear hy hzd HZ BEND HX x1 HE
          generalize wr.drew = wd at *
          refine seq_at (some 127) (v := ?_) rfl (by kernel_rfl) (by kernel_rfl) ?_ ?_
          rotate_left
          · intro w' hw'
            go_simp
            try with_reducible rfl
          simp only [Act.put, List.setIfInBounds_toArray, List.set_cons_zero, List.set_cons_succ]
          refine seq_at (some 128) (v := ?_) rfl (by kernel_rfl) (by kernel_rfl) ?_ ?_
          rotate_left
          · intro w' hw'
            go_simp
            try with_reducible rfl
          simp only [Act.put, List.setIfInBounds_toArray, List.set_cons_zero, List.set_cons_succ]
          refine seq_at (some 129) (v := ?_) rfl (by kernel_rfl) (by kernel_rfl) ?_ ?_
          rotate_left
          · intro w' hw'
            go_simp
            try with_reducible rfl
          simp only [Act.put, List.setIfInBounds_toArray, List.set_cons_zero, List.set_cons_succ]
          refine seq_at (some 130) (v := ?_) rfl (by kernel_rfl) (by kernel_rfl) ?_ ?_
          rotate_left
          · intro w' hw'
            obtain q0 := U w' hw'
            go_simp
            try with_reducible rfl
          simp only [Act.put, List.setIfInBounds_toArray, List.set_cons_zero, List.set_cons_succ]
          refine seq_at (some 131) (v := ?_) rfl (by kernel_rfl) (by kernel_rfl) ?_ ?_
          rotate_left
          · intro w' hw'
            go_simp
            try with_reducible rfl
          simp only [Act.put, List.setIfInBounds_toArray, List.set_cons_zero, List.set_cons_succ]
          refine seq_load_msg (some 132) rfl (by kernel_rfl) (by kernel_rfl) (.tmp 5) (by kernel_rfl) b5 mc rfl HS.out UY.out ?_
          simp only [Act.put, List.setIfInBounds_toArray, List.set_cons_zero, List.set_cons_succ]
          refine seq_eff rfl (by kernel_rfl) (fun K hK => ?_)
          go_simp
          refine (HMAY.out _).mono ?_
          rintro e w8 ⟨rfl, hb8⟩
          rw [HYY.out]
          refine hK.out _ _ (.inl (Ex.below hb8)) ?_
          try simp only [Act.put, List.setIfInBounds_toArray, List.set_cons_zero, List.set_cons_succ]
          clear hK
          have UY8 := Lib.hid (UY.out.later (Ex.below hb8))
          have UZ8 := Lib.hid (UZ.out.later (Ex.below hb8))
          have UA8 := Lib.hid (UA.out.later (Ex.below hb8))
          have B8 := Lib.hid (Bl.step BED.out hb8)
          clear hb8 UY UZ UA BED U
          refine seq_at (some 134) (v := ?_) rfl (by kernel_rfl) (by kernel_rfl) ?_ ?_
          rotate_left
          · intro w' hw'
            go_simp
            try with_reducible rfl
          simp only [Act.put, List.setIfInBounds_toArray, List.set_cons_zero, List.set_cons_succ]
          refine seq_at (some 135) (v := ?_) rfl (by kernel_rfl) (by kernel_rfl) ?_ ?_
          rotate_left
          · intro w' hw'
            go_simp
            try with_reducible rfl
          simp only [Act.put, List.setIfInBounds_toArray, List.set_cons_zero, List.set_cons_succ]
          refine seq_at (some 136) (v := ?_) rfl (by kernel_rfl) (by kernel_rfl) ?_ ?_
          rotate_left
          · intro w' hw'
            go_simp
            try with_reducible rfl
          simp only [Act.put, List.setIfInBounds_toArray, List.set_cons_zero, List.set_cons_succ]
          refine seq_skip (some 137) rfl (by kernel_rfl) (by kernel_rfl) ?_
          simp only [Act.put, List.setIfInBounds_toArray, List.set_cons_zero, List.set_cons_succ]
          refine seq_skip (some 140) rfl (by kernel_rfl) (by kernel_rfl) ?_
          simp only [Act.put, List.setIfInBounds_toArray, List.set_cons_zero, List.set_cons_succ]
          refine seq_skip (some 141) rfl (by kernel_rfl) (by kernel_rfl) ?_
          simp only [Act.put, List.setIfInBounds_toArray, List.set_cons_zero, List.set_cons_succ]
          refine seq_skip (some 138) rfl (by kernel_rfl) (by kernel_rfl) ?_
          simp only [Act.put, List.setIfInBounds_toArray, List.set_cons_zero, List.set_cons_succ]
          refine seq_skip (some 139) rfl (by kernel_rfl) (by kernel_rfl) ?_
          simp only [Act.put, List.setIfInBounds_toArray, List.set_cons_zero, List.set_cons_succ]
          refine seq_skip (some 142) rfl (by kernel_rfl) (by kernel_rfl) ?_
          simp only [Act.put, List.setIfInBounds_toArray, List.set_cons_zero, List.set_cons_succ]
          refine seq_at (some 143) (v := ?_) rfl (by kernel_rfl) (by kernel_rfl) ?_ ?_
          rotate_left
          · intro w' hw'
            go_simp
            try with_reducible rfl
          simp only [Act.put, List.setIfInBounds_toArray, List.set_cons_zero, List.set_cons_succ]
          refine seq_nil ?_
          go_wp2_with (refine wpList_store_row rfl 27 (.tmp 2) (.tmp 144) rfl w.heap.size Tryd.zeroCells27 rfl rfl 27 _ (UZ8.out _ (Ex.refl _ _)) zero_info rfl zero_all ?_)
          rw [HV.out]
          exact refRead_end rfl rfl rfl zero_size (setRow_at (UZ8.out _ (Ex.refl _ _))) (Bl.grown B8.out (setRow_grown _ _ _) (fun k hk => by injection hk with hk; omega))
        | true =>
          have HYY := Lib.hid hyy
          have HPUT := Lib.hid (fun u => refPut_any m0 hok hyy u)
          by_cases hne : putB m0 = l
          · have HV : Hid (readV l = (mcells m0, 0)) := Lib.hid (readV_some' hl (by rw [readM_ref, hpar]; simp [hyy, hne]))
            clear hyy hpar
            obtain ⟨mc, hmc⟩ : ∃ mc, mc = mcells m0 := ⟨_, rfl⟩
            rw [← hmc] at HS HAL HMAY HY HPUT HV
            clear hmc
            have HNE := Lib.hid hne
            clear hne
            generalize putB m0 = BB at *
            go_wp2_with fail
            refine wp_region_seq (fun _ => False) [] [(0, true), (1, true), (2, true), (3, true), (4, true), (5, true), (6, false), (7, true), (8, true), (9, true), (10, true), (13, true), (14, true), (11, false), (12, true), (15, true), (16, true)] (by kernel_rfl) (by kernel_rfl) (fun _ _ d _ _ h => by cases d <;> exact h) rfl (by kernel_rfl) ?_
            have U : Up (fun _ => False) wr.drew (fun u => u.cell? ⟨w.heap.size + 1 + 1, 1, none⟩ = some (.bool false)) := Up.cell (by simpa using x1) (fun h => h)
            have hy : wr.drew.heap[b5]? = some (.cells mc 27 (0, 0)) := HY.out
            have UY := Lib.hid (Up.blk (T := fun _ => False) hy (fun h => h))
            have hzd : wr.drew.heap[w.heap.size]? = some (.cells Tryd.zeroCells27 27 (0, 0)) := HZ.out
            have UZ := Lib.hid (Up.blk (T := fun _ => False) hzd (fun h => h))
            have UA := Lib.hid (Up.bytes (T := fun _ => False) (w := wr.drew) (show At wr.drew A (bv l) from HX.out.rdr.bytes) (fun _ _ h => h))
            have BED : Hid (Below w.heap.size w wr.drew) := BEND.out.drew
            clear hy hzd HZ BEND HX x1 HE
            generalize wr.drew = wd at *
            refine seq_at (some 127) (v := ?_) rfl (by kernel_rfl) (by kernel_rfl) ?_ ?_
            rotate_left
            · intro w' hw'
              go_simp
              try with_reducible rfl
            simp only [Act.put, List.setIfInBounds_toArray, List.set_cons_zero, List.set_cons_succ]
            refine seq_at (some 128) (v := ?_) rfl (by kernel_rfl) (by kernel_rfl) ?_ ?_
            rotate_left
            · intro w' hw'
              go_simp
              try with_reducible rfl
            simp only [Act.put, List.setIfInBounds_toArray, List.set_cons_zero, List.set_cons_succ]
            refine seq_at (some 129) (v := ?_) rfl (by kernel_rfl) (by kernel_rfl) ?_ ?_
            rotate_left
            · intro w' hw'
              go_simp
              try with_reducible rfl
            simp only [Act.put, List.setIfInBounds_toArray, List.set_cons_zero, List.set_cons_succ]
            refine seq_at (some 130) (v := ?_) rfl (by kernel_rfl) (by kernel_rfl) ?_ ?_
            rotate_left
            · intro w' hw'
              obtain q0 := U w' hw'
              go_simp
              try with_reducible rfl
            simp only [Act.put, List.setIfInBounds_toArray, List.set_cons_zero, List.set_cons_succ]
            refine seq_at (some 131) (v := ?_) rfl (by kernel_rfl) (by kernel_rfl) ?_ ?_
            rotate_left
            · intro w' hw'
              go_simp
              try with_reducible rfl
            simp only [Act.put, List.setIfInBounds_toArray, List.set_cons_zero, List.set_cons_succ]
            refine seq_load_msg (some 132) rfl (by kernel_rfl) (by kernel_rfl) (.tmp 5) (by kernel_rfl) b5 mc rfl HS.out UY.out ?_
            simp only [Act.put, List.setIfInBounds_toArray, List.set_cons_zero, List.set_cons_succ]
            refine seq_eff rfl (by kernel_rfl) (fun K hK => ?_)
            go_simp
            refine (HMAY.out _).mono ?_
            rintro e w8 ⟨rfl, hb8⟩
            rw [HYY.out]
            refine hK.out _ _ (.inl (Ex.below hb8)) ?_
            try simp only [Act.put, List.setIfInBounds_toArray, List.set_cons_zero, List.set_cons_succ]
            clear hK
            have UY8 := Lib.hid (UY.out.later (Ex.below hb8))
            have UZ8 := Lib.hid (UZ.out.later (Ex.below hb8))
            have UA8 := Lib.hid (UA.out.later (Ex.below hb8))
            have B8 := Lib.hid (Bl.step BED.out hb8)
            clear hb8 UY UZ UA BED U
            refine seq_at (some 134) (v := ?_) rfl (by kernel_rfl) (by kernel_rfl) ?_ ?_
            rotate_left
            · intro w' hw'
              go_simp
              try with_reducible rfl
            simp only [Act.put, List.setIfInBounds_toArray, List.set_cons_zero, List.set_cons_succ]
            refine seq_at (some 135) (v := ?_) rfl (by kernel_rfl) (by kernel_rfl) ?_ ?_
            rotate_left
            · intro w' hw'
              go_simp
              try with_reducible rfl
            simp only [Act.put, List.setIfInBounds_toArray, List.set_cons_zero, List.set_cons_succ]
            refine seq_at (some 136) (v := ?_) rfl (by kernel_rfl) (by kernel_rfl) ?_ ?_
            rotate_left
            · intro w' hw'
              go_simp
              try with_reducible rfl
            simp only [Act.put, List.setIfInBounds_toArray, List.set_cons_zero, List.set_cons_succ]
            refine seq_load_msg (some 137) rfl (by kernel_rfl) (by kernel_rfl) (.tmp 5) (by kernel_rfl) b5 mc rfl HS.out UY8.out ?_
            simp only [Act.put, List.setIfInBounds_toArray, List.set_cons_zero, List.set_cons_succ]
            refine seq_at (some 140) (v := ?_) rfl (by kernel_rfl) (by kernel_rfl) ?_ ?_
            rotate_left
            · intro w' hw'
              go_simp
              try with_reducible rfl
            simp only [Act.put, List.setIfInBounds_toArray, List.set_cons_zero, List.set_cons_succ]
            have UC : Up (fun _ => False) w8 (fun u => (convert 28 9 (.slice A l.length c)).run Tryd.prog u = .ok (.string ⟨l.toArray⟩) u) := UA8.out.map (fun u hu => convert_at u A c l hu)
            refine seq_at (some 141) (v := ?_) rfl (by kernel_rfl) (by kernel_rfl) ?_ ?_
            rotate_left
            · intro w' hw'
              obtain q0 := UC w' hw'
              go_simp
              try with_reducible rfl
            simp only [Act.put, List.setIfInBounds_toArray, List.set_cons_zero, List.set_cons_succ]
            clear UC
            refine seq_eff rfl (by kernel_rfl) (fun K hK => ?_)
            go_simp
            refine (HPUT.out _).mono ?_
            rintro e w9 ⟨g9, c9, rfl, ho9, hb9⟩
            refine hK.out _ _ (.inl (Ex.below hb9)) ?_
            try simp only [Act.put, List.setIfInBounds_toArray, List.set_cons_zero, List.set_cons_succ]
            clear hK
            have UY9 := Lib.hid (UY8.out.later (Ex.below hb9))
            have UZ9 := Lib.hid (UZ8.out.later (Ex.below hb9))
            have B9 := Lib.hid (Bl.step B8.out hb9)
            have UC : Up (fun _ => False) w9 (fun u => (convert 28 9 (.slice (some ⟨g9, 0, none⟩) BB.length c9)).run Tryd.prog u = .ok (.string ⟨BB.toArray⟩) u) := (Up.bytes (T := fun _ => False) (own_at ho9) (fun _ _ h => h)).map (fun u hu => convert_at u _ c9 BB hu)
            clear hb9 ho9 UY8 UZ8 UA8 B8
            refine seq_at (some 139) (v := ?_) rfl (by kernel_rfl) (by kernel_rfl) ?_ ?_
            rotate_left
            · intro w' hw'
              obtain q0 := UC w' hw'
              go_simp
              try with_reducible rfl
            simp only [Act.put, List.setIfInBounds_toArray, List.set_cons_zero, List.set_cons_succ]
            clear UC
            have q1 : (BB == l) = true := by simpa using HNE.out
            have q2 : decide (BB = l) = true := by simpa using HNE.out
            have q3 : (BB != l) = false := by simpa using HNE.out
            refine seq_at (some 142) (v := ?_) rfl (by kernel_rfl) (by kernel_rfl) ?_ ?_
            rotate_left
            · intro w' hw'
              go_simp
              try with_reducible rfl
            simp only [Act.put, List.setIfInBounds_toArray, List.set_cons_zero, List.set_cons_succ]
            refine seq_at (some 143) (v := ?_) rfl (by kernel_rfl) (by kernel_rfl) ?_ ?_
            rotate_left
            · intro w' hw'
              go_simp
              try with_reducible rfl
            simp only [Act.put, List.setIfInBounds_toArray, List.set_cons_zero, List.set_cons_succ]
            refine seq_nil ?_
            go_wp2_with (first | (refine load_msg HS.out rfl (.tmp 5) rfl b5 rfl (UY9.out _ (Ex.refl _ _)) ?_) | (refine wpList_store_row rfl 27 (.tmp 2) (.tmp 145) rfl w.heap.size mc rfl rfl 27 _ (UZ9.out _ (Ex.refl _ _)) (infoMsg.trans (congrArg some HS.out.symm)) (by rw [zero_size]; exact HS.out.symm) HAL.out ?_))
            rw [HV.out]
            exact refRead_end rfl rfl rfl HS.out (setRow_at (UZ9.out _ (Ex.refl _ _))) (Bl.grown B9.out (setRow_grown _ _ _) (fun k hk => by injection hk with hk; omega))
          · have HV : Hid (readV l = (Tryd.zeroCells27, 4)) := Lib.hid (readV_none' hl (by rw [readM_ref, hpar]; simp [hyy, hne]))
            clear hyy hpar
            obtain ⟨mc, hmc⟩ : ∃ mc, mc = mcells m0 := ⟨_, rfl⟩
            rw [← hmc] at HS HAL HMAY HY HPUT
            clear hmc
            have HNE := Lib.hid hne
            clear hne
            generalize putB m0 = BB at *
            go_wp2_with fail
            refine wp_region_seq (fun _ => False) [] [(0, true), (1, true), (2, true), (3, true), (4, true), (5, true), (6, false), (7, true), (8, true), (9, true), (10, true), (13, true), (14, true), (11, false), (12, true), (15, true), (16, true)] (by kernel_rfl) (by kernel_rfl) (fun _ _ d _ _ h => by cases d <;> exact h) rfl (by kernel_rfl) ?_
            have U : Up (fun _ => False) wr.drew (fun u => u.cell? ⟨w.heap.size + 1 + 1, 1, none⟩ = some (.bool false)) := Up.cell (by simpa using x1) (fun h => h)
            have hy : wr.drew.heap[b5]? = some (.cells mc 27 (0, 0)) := HY.out
            have UY := Lib.hid (Up.blk (T := fun _ => False) hy (fun h => h))
            have hzd : wr.drew.heap[w.heap.size]? = some (.cells Tryd.zeroCells27 27 (0, 0)) := HZ.out
            have UZ := Lib.hid (Up.blk (T := fun _ => False) hzd (fun h => h))
            have UA := Lib.hid (Up.bytes (T := fun _ => False) (w := wr.drew) (show At wr.drew A (bv l) from HX.out.rdr.bytes) (fun _ _ h => h))
            have BED : Hid (Below w.heap.size w wr.drew) := BEND.out.drew
            clear hy hzd HZ BEND HX x1 HE
            generalize wr.drew = wd at *
            refine seq_at (some 127) (v := ?_) rfl (by kernel_rfl) (by kernel_rfl) ?_ ?_
            rotate_left
            · intro w' hw'
              go_simp
              try with_reducible rfl
            simp only [Act.put, List.setIfInBounds_toArray, List.set_cons_zero, List.set_cons_succ]
            refine seq_at (some 128) (v := ?_) rfl (by kernel_rfl) (by kernel_rfl) ?_ ?_
            rotate_left
            · intro w' hw'
              go_simp
              try with_reducible rfl
            simp only [Act.put, List.setIfInBounds_toArray, List.set_cons_zero, List.set_cons_succ]
            refine seq_at (some 129) (v := ?_) rfl (by kernel_rfl) (by kernel_rfl) ?_ ?_
            rotate_left
            · intro w' hw'
              go_simp
              try with_reducible rfl
            simp only [Act.put, List.setIfInBounds_toArray, List.set_cons_zero, List.set_cons_succ]
            refine seq_at (some 130) (v := ?_) rfl (by kernel_rfl) (by kernel_rfl) ?_ ?_
            rotate_left
            · intro w' hw'
              obtain q0 := U w' hw'
              go_simp
              try with_reducible rfl
            simp only [Act.put, List.setIfInBounds_toArray, List.set_cons_zero, List.set_cons_succ]
            refine seq_at (some 131) (v := ?_) rfl (by kernel_rfl) (by kernel_rfl) ?_ ?_
            rotate_left
            · intro w' hw'
              go_simp
              try with_reducible rfl
            simp only [Act.put, List.setIfInBounds_toArray, List.set_cons_zero, List.set_cons_succ]
            refine seq_load_msg (some 132) rfl (by kernel_rfl) (by kernel_rfl) (.tmp 5) (by kernel_rfl) b5 mc rfl HS.out UY.out ?_
            simp only [Act.put, List.setIfInBounds_toArray, List.set_cons_zero, List.set_cons_succ]
            refine seq_eff rfl (by kernel_rfl) (fun K hK => ?_)
            go_simp
            refine (HMAY.out _).mono ?_
            rintro e w8 ⟨rfl, hb8⟩
            rw [HYY.out]
            refine hK.out _ _ (.inl (Ex.below hb8)) ?_
            try simp only [Act.put, List.setIfInBounds_toArray, List.set_cons_zero, List.set_cons_succ]
            clear hK
            have UY8 := Lib.hid (UY.out.later (Ex.below hb8))
            have UZ8 := Lib.hid (UZ.out.later (Ex.below hb8))
            have UA8 := Lib.hid (UA.out.later (Ex.below hb8))
            have B8 := Lib.hid (Bl.step BED.out hb8)
            clear hb8 UY UZ UA BED U
            refine seq_at (some 134) (v := ?_) rfl (by kernel_rfl) (by kernel_rfl) ?_ ?_
            rotate_left
            · intro w' hw'
              go_simp
              try with_reducible rfl
            simp only [Act.put, List.setIfInBounds_toArray, List.set_cons_zero, List.set_cons_succ]
            refine seq_at (some 135) (v := ?_) rfl (by kernel_rfl) (by kernel_rfl) ?_ ?_
            rotate_left
            · intro w' hw'
              go_simp
              try with_reducible rfl
            simp only [Act.put, List.setIfInBounds_toArray, List.set_cons_zero, List.set_cons_succ]
            refine seq_at (some 136) (v := ?_) rfl (by kernel_rfl) (by kernel_rfl) ?_ ?_
            rotate_left
            · intro w' hw'
              go_simp
              try with_reducible rfl
            simp only [Act.put, List.setIfInBounds_toArray, List.set_cons_zero, List.set_cons_succ]
            refine seq_load_msg (some 137) rfl (by kernel_rfl) (by kernel_rfl) (.tmp 5) (by kernel_rfl) b5 mc rfl HS.out UY8.out ?_
            simp only [Act.put, List.setIfInBounds_toArray, List.set_cons_zero, List.set_cons_succ]
            refine seq_at (some 140) (v := ?_) rfl (by kernel_rfl) (by kernel_rfl) ?_ ?_
            rotate_left
            · intro w' hw'
              go_simp
              try with_reducible rfl
            simp only [Act.put, List.setIfInBounds_toArray, List.set_cons_zero, List.set_cons_succ]
            have UC : Up (fun _ => False) w8 (fun u => (convert 28 9 (.slice A l.length c)).run Tryd.prog u = .ok (.string ⟨l.toArray⟩) u) := UA8.out.map (fun u hu => convert_at u A c l hu)
            refine seq_at (some 141) (v := ?_) rfl (by kernel_rfl) (by kernel_rfl) ?_ ?_
            rotate_left
            · intro w' hw'
              obtain q0 := UC w' hw'
              go_simp
              try with_reducible rfl
            simp only [Act.put, List.setIfInBounds_toArray, List.set_cons_zero, List.set_cons_succ]
            clear UC
            refine seq_eff rfl (by kernel_rfl) (fun K hK => ?_)
            go_simp
            refine (HPUT.out _).mono ?_
            rintro e w9 ⟨g9, c9, rfl, ho9, hb9⟩
            refine hK.out _ _ (.inl (Ex.below hb9)) ?_
            try simp only [Act.put, List.setIfInBounds_toArray, List.set_cons_zero, List.set_cons_succ]
            clear hK
            have UY9 := Lib.hid (UY8.out.later (Ex.below hb9))
            have UZ9 := Lib.hid (UZ8.out.later (Ex.below hb9))
            have B9 := Lib.hid (Bl.step B8.out hb9)
            have UC : Up (fun _ => False) w9 (fun u => (convert 28 9 (.slice (some ⟨g9, 0, none⟩) BB.length c9)).run Tryd.prog u = .ok (.string ⟨BB.toArray⟩) u) := (Up.bytes (T := fun _ => False) (own_at ho9) (fun _ _ h => h)).map (fun u hu => convert_at u _ c9 BB hu)
            clear hb9 ho9 UY8 UZ8 UA8 B8
            refine seq_at (some 139) (v := ?_) rfl (by kernel_rfl) (by kernel_rfl) ?_ ?_
            rotate_left
            · intro w' hw'
              obtain q0 := UC w' hw'
              go_simp
              try with_reducible rfl
            simp only [Act.put, List.setIfInBounds_toArray, List.set_cons_zero, List.set_cons_succ]
            clear UC
            have q1 : (BB == l) = false := by simpa using HNE.out
            have q2 : decide (BB = l) = false := by simpa using HNE.out
            have q3 : (BB != l) = true := by simpa using HNE.out
            refine seq_at (some 142) (v := ?_) rfl (by kernel_rfl) (by kernel_rfl) ?_ ?_
            rotate_left
            · intro w' hw'
              go_simp
              try with_reducible rfl
            simp only [Act.put, List.setIfInBounds_toArray, List.set_cons_zero, List.set_cons_succ]
            refine seq_at (some 143) (v := ?_) rfl (by kernel_rfl) (by kernel_rfl) ?_ ?_
            rotate_left
            · intro w' hw'
              go_simp
              try with_reducible rfl
            simp only [Act.put, List.setIfInBounds_toArray, List.set_cons_zero, List.set_cons_succ]
            refine seq_nil ?_
            go_wp2_with (refine wpList_store_row rfl 27 (.tmp 2) (.tmp 144) rfl w.heap.size Tryd.zeroCells27 rfl rfl 27 _ (UZ9.out _ (Ex.refl _ _)) zero_info rfl zero_all ?_)
            rw [HV.out]
            exact refRead_end rfl rfl rfl zero_size (setRow_at (UZ9.out _ (Ex.refl _ _))) (Bl.grown B9.out (setRow_grown _ _ _) (fun k hk => by injection hk with hk; omega))
end Go.Proofs.YtemmdlanidepbaaDoor
