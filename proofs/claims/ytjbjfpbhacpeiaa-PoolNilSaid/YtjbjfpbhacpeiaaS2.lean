/- Contract of the pool's Copy. -/
import Derived.Test.YtjbjfpbhacpeiaaP9
import Derived.Maps.RangeWalk
import Derived.Maps.Ext
namespace Go.Proofs.Ytjbjfpbhacpeiaa
open Go.RowKit
set_option linter.unusedSimpArgs false
set_option linter.unusedVariables false
set_option maxRecDepth 100000

theorem plist_one (S : PS) (m : Nat) : ∀ u ∈ plist S m, u.oneCell' = true := by
  intro u hu
  rcases List.mem_append.1 hu with hu | hu
  · obtain ⟨x, _, hx⟩ := List.mem_flatMap.1 hu
    exact pcells_one x u hx
  · simp only [List.mem_cons, List.not_mem_nil, or_false] at hu
    rcases hu with rfl | rfl | rfl <;> rfl
theorem infoPool : (Try.prog.info? 70).map (·.size) = some 1683 := by kernel_rfl
theorem zpool (w : World) : (zeroValue 70).run Try.prog w = .ok (.agg zP.toArray) w := by kernel_rfl
theorem zP_len : zP.length = 1683 := by simp only [zP, List.length_append, flat0]; rfl
theorem plist_map (S : PS) (m m' : Nat) {K : Int} (hS : S.Ok K) : (plist S m).set 1681 (.map (some m')) = plist S m' := by
  unfold plist
  rw [List.set_append_right _ _ (by rw [flat_len hS]; omega), flat_len hS]
  rfl
set_option maxHeartbeats 8000000 in
theorem copy_any (w : World) (b m : Nat) {K : Int} {S : PS} (h : PoolAt w b m S) (hS : S.Ok K) : Calls Try.prog 23 #[.pointer (some ⟨b, 0, none⟩)] w (fun e w' => e = .returned (.pointer (some ⟨w.heap.size, 0, none⟩)) ∧ PoolAt w' w.heap.size (w.heap.size + 1) S ∧ Below w.heap.size w w') := by
  have HT := Lib.hid (there_yes w b m h hS)
  obtain ⟨Z, hZ⟩ : ∃ Z, Z = zP.toArray := ⟨_, rfl⟩
  have hz : ∀ u, (zeroValue 70).run Try.prog u = .ok (.agg Z) u := fun u => by rw [hZ]; exact zpool u
  obtain ⟨C, hC⟩ : ∃ C, C = (plist S m).toArray := ⟨_, rfl⟩
  have hsz : C.size = 1683 := by rw [hC, List.size_toArray, plist_len hS]
  have hB := h.cells
  unfold PCells at hB
  rw [← hC] at hB
  have HB := Lib.hid hB
  have HN := Lib.hid (heap_alloc_new w (.cells Z 70))
  have HI : Hid ((Try.prog.info? 70).map (·.size) = some C.size) := Lib.hid (infoPool.trans (by rw [hsz]))
  have HS : Hid (Z.size = C.size) := Lib.hid (by rw [hsz, hZ, List.size_toArray, zP_len])
  have HA : Hid (C.all (·.oneCell') = true) := Lib.hid (by rw [hC]; exact all_oneCell_toArray (plist_one S m))
  have hB2 := (Below.heap_alloc w (.cells Z 70) b h.cells.lt).trans hB
  have HB2 := Lib.hid hB2
  obtain ⟨D, hD, hM⟩ := h.map
  have hP1 : PCells (w.alloc (.cells C 70)) w.heap.size (plist S m) 70 := by unfold PCells; rw [← hC]; exact heap_alloc_new w _
  have hD1 : OwnsI (w.alloc (.cells C 70)) m (Maps.size D) D := hD.alloc _
  have hmlt := h.mlt
  have hblt := h.cells.lt
  have cm0 := h.mp hS
  have HSo := Lib.hid hS
  have hbm := h.ne
  clear h hS hB hC hsz hZ hB2 hD
  go_enter Try.func23, Try.ntmps23
  go_wp2_with fail
  refine HT.out.mono ?_
  rintro e w' ⟨rfl, rfl⟩
  go_upto_region 4 with (first | (refine wpList_load_row rfl 70 (.tmp 10) rfl b rfl 70 C (0, 0) _ HB.out Try.underlying70 rfl HI.out ?_) | (refine wpList_store_row rfl 70 (.tmp 3) (.tmp 11) rfl w.heap.size C rfl rfl 70 _ HN.out HI.out HS.out HA.out ?_; rw [World.setRow_alloc_new]))
  have e1 : (w.alloc (.cells C 70)).heap.size = w.heap.size + 1 := World.size_alloc _ _
  have cm1 : (w.alloc (.cells C 70)).cell? ⟨b, 1681, none⟩ = some (.map (some m)) := Lib.cell?_alloc_some _ cm0
  have hbl1 : Below w.heap.size w (w.alloc (.cells C 70)) := (Below.refl _ _).alloc (Nat.le_refl _) _
  clear HB HN HI HS HA HB2 hz HT cm0
  generalize w.alloc (.cells C 70) = w1 at *
  have hmm := fun t w => @run_makeMap Try.prog t w
  have cz1 : w1.cell? ⟨w.heap.size, 1681, none⟩ = some (.map (some m)) := by rw [hP1.cell]; exact (plist_tail HSo.out m).2.1
  have fz1 := hP1.frozen 1681
  go_upto_region 5 with fail
  have exW := setCell_ex (T := fun k => k = w.heap.size) 1681 (.map (some (w.heap.size + 1))) w1 rfl
  have hP2 := hP1.set 1681 (.map (some (w.heap.size + 1)))
  rw [plist_map S m (w.heap.size + 1) HSo.out] at hP2
  have hD2 := owns_kept hD1 exW (by omega)
  have cm2 := Up.cell cm1 (by dsimp only; omega) _ exW
  have hbl2 : Below w.heap.size w (w1.setCell ⟨w.heap.size, 1681, none⟩ (.map (some (w.heap.size + 1)))) := hbl1.trans (exW.toBelow (by omega) (fun k hk => by omega))
  have e2 : (w1.setCell ⟨w.heap.size, 1681, none⟩ (.map (some (w.heap.size + 1)))).heap.size = w.heap.size + 1 := by rw [← e1]; simp [World.setCell]
  clear exW hP1 hD1 cm1 fz1 cz1 hbl1 e1
  generalize w1.setCell ⟨w.heap.size, 1681, none⟩ (.map (some (w.heap.size + 1))) = w2 at *
  have hP3 := (PCells.kept (T := fun _ => False) hP2 (Ex.below ((Below.refl _ w2).alloc (Nat.le_refl _) (.map #[] 0))) id)
  have hD3 : OwnsI (w2.alloc (.map #[] 0)) m (Maps.size D) D := hD2.alloc _
  have cm3 : (w2.alloc (.map #[] 0)).cell? ⟨b, 1681, none⟩ = some (.map (some m)) := Lib.cell?_alloc_some _ cm2
  have hm3 := World.ownsMap_made (H := Unit) w2 Try.prog 3 (plainElem Try.prog 3)
  have e3 : (w2.alloc (.map #[] 0)).heap.size = w.heap.size + 2 := by rw [World.size_alloc, e2]
  rw [e2] at hm3
  have hbl3 : Below w.heap.size w (w2.alloc (.map #[] 0)) := hbl2.alloc hbl2.size _
  clear hP2 hD2 cm2 hbl2 e2
  generalize w2.alloc (.map #[] 0) = w3 at *
  go_wp2_with (first
    | (at_range; refine wpList_range_own _ rfl (.tmp 17) 68 rfl 3 3 (Maps.int_keyed Try.underlying3) Try.underlying68 _ m (Maps.size D) D rfl hD3 ?_; intro w0 hrg0 hg0 hs0)
    | go_in)
  go_frame
  rw [e3] at hrg0 hs0 ⊢
  go_loopw [19] (fun _ wr => ∃ (left : Lit → Bool) (cnt : Nat) (Dout : DataW Unit), wr.ranges Try.prog 3 (plainElem Try.prog 3) m (w.heap.size + 2) (Maps.size D) D left cnt ∧ cnt ≤ Maps.size D ∧
      OwnsI wr (w.heap.size + 1) (Maps.size D - cnt) Dout ∧ Maps.Agree Dout D left ∧ PCells wr w.heap.size (plist S (w.heap.size + 1)) 70 ∧ Below w.heap.size w wr)
    (fun _ wr => wr.rangeLeft m (w.heap.size + 2))
  case atStart =>
    exact ⟨_, _, .map [], hrg0, Nat.le_refl _, (hm3.kept hg0 (by simp)).mono (Nat.zero_le _), Maps.agree_start D, hP3.kept (T := fun _ => False) (Ex.grown hg0 (fun k hk => by cases hk)) id, hbl3.grown hg0 hbl3.size (fun j hj => by cases hj)⟩
  case round =>
    obtain ⟨left, cnt, Dout, hrg, hcs, hout, hA, hPr, hnx⟩ := hrel
    have hn16 : Maps.size D ≤ 16 := by rw [hM.2]; exact Nat.le_trans (cnt_le S.s) HSo.out.len
    have c25 : wr.cell? ⟨w.heap.size, 1681, none⟩ = some (.map (some (w.heap.size + 1))) := by rw [hPr.cell]; exact (plist_tail HSo.out _).2.1
    go_wp2_with (first
      | (at_next; refine wpList_next_ranges_ii _ rfl _ rfl 3 3 .i64 .i64 (Maps.int_keyed Try.underlying3) Try.underlying3 Try.underlying3 m (w.heap.size + 2) (Maps.size D) _ _ _ rfl hrg ?_ ?_)
      | go_in)
    · intro hc0 hl0
      go_wp2_with fail
      go_ret
      subst hc0
      have e := Maps.agree_end hA hl0 (hout.canon (Maps.int_keyed Try.underlying3)) (hD3.canon (Maps.int_keyed Try.underlying3))
      subst e
      exact ⟨rfl, ⟨hPr, Dout, by simpa using hout, hM⟩, hnx⟩
    · intro x c w4 cnt1 hwx hwc hlx hat hrg1 hlt hg1 hs1 hen
      have hout1 := hout.kept hg1 (by simp)
      have hPr1 := hPr.kept (T := fun k => k = w.heap.size + 2) (Ex.grown hg1 (fun k hk => by injection hk with hk; exact hk.symm)) (by omega)
      have c26 : w4.cell? ⟨w.heap.size, 1681, none⟩ = some (.map (some (w.heap.size + 1))) := by rw [hPr1.cell]; exact (plist_tail HSo.out _).2.1
      go_wp2_with (first
        | (at_mapUpdate; refine wpList_mapUpdate_own _ rfl _ _ _ 68 rfl 3 3 (Maps.int_keyed Try.underlying3) Try.underlying68 _ (w.heap.size + 1) _ _ rfl hout1 (by simp only [maxLen]; omega) _ _ _ rfl rfl (Maps.keyOf_int_mk Try.underlying3 hwx) _ [] (plainElem_int Try.underlying3 hwc) ?_; intro w5 hout2 hg2; go_frame)
        | go_in)
      have hrg2 := hrg1.kept hg2 (fun e => by have := Option.some.inj e; omega) (fun e => by have := Option.some.inj e; omega)
      go_roundw
      case rel =>
        exact ⟨_, cnt1, _, hrg2, by omega, hout2.mono (by omega), Maps.agree_step hA hout.isMap trivial hat,
          hPr1.kept (T := fun k => k = w.heap.size + 1) (Ex.grown hg2 (fun k hk => by injection hk with hk; exact hk.symm)) (by omega),
          (hnx.grown hg1 hnx.size (fun j hj => by cases hj; omega)).grown hg2 (by have := hnx.size; omega) (fun j hj => by cases hj; omega)⟩
      case measure => rw [hrg2.left_eq, hrg.left_eq]; exact hlt
end Go.Proofs.Ytjbjfpbhacpeiaa
