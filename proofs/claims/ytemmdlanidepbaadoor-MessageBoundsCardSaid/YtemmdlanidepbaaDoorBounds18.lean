/- The walk of MessageBounds. -/
import Derived.Test.YtemmdlanidepbaaDoorBdRows
namespace Go.Proofs.YtemmdlanidepbaaDoor
open Go.RowKit
set_option linter.unusedSimpArgs false
set_option maxRecDepth 100000

theorem kept_b {w w' : World} {base n c g b : Nat} {e : TypeId} {size : Nat} {xs : List Value} (h : w.ownsRow base e size (.slice (some ⟨g, 0, none⟩) n c) n xs) (hg : w.grownBy w' (some b)) (hlt : g < b) : w'.ownsRow base e size (.slice (some ⟨g, 0, none⟩) n c) n xs :=
  h.kept hg (.inr (fun e => by
    have e : some g = some b := e
    injection e with e
    omega))
theorem set_blk {w : World} {b i : Nat} {cs : Array Value} {t : TypeId} (h : w.heap[b]? = some (.cells cs t (0, 0))) (v : Value) : (w.setCell ⟨b, i, none⟩ v).heap[b]? = some (.cells (cs.setIfInBounds i v) t (0, 0)) := by
  simp [World.setCell, Array.getElem?_modify, h]
theorem D1_len : D1.body.length ≤ 140737488355328 := by simp only [D1, List.length_replicate]; omega
theorem D2_len : D2.body.length ≤ 140737488355328 := by simp only [D2, List.length_replicate]; omega
theorem D3_len : D3.body.length ≤ 140737488355328 := by simp [D3]
theorem D4_len : D4.body.length ≤ 140737488355328 := by simp [D4]
def sixW (w : World) (b : Nat) : World := (((((w.setCell ⟨b, 1, none⟩ (.int .i64 16)).setCell ⟨b, 106, none⟩ (.int .i64 3)).setCell ⟨b, 211, none⟩ (.int .i64 2147483648)).setCell ⟨b, 314, none⟩ (.int .i64 0)).setCell ⟨b, 412, none⟩ (.int .i64 14)).setCell ⟨b, 2, none⟩ (.int .i64 4611686018427387905)
theorem six_blk {w : World} {b : Nat} {t : TypeId} (h : RBlk w b t (NF 5)) : RBlk (sixW w b) b t R5 := ⟨by
  rw [← r5e]
  exact set_blk (set_blk (set_blk (set_blk (set_blk (set_blk h.blk _) _) _) _) _) _⟩
theorem six_grown (w : World) (b : Nat) : w.grownBy (sixW w b) (some b) :=
  grown_trans (grown_trans (grown_trans (grown_trans (grown_trans (grown_set _ _ _ _) (grown_set _ _ _ _) (.inl rfl)) (grown_set _ _ _ _) (.inl rfl)) (grown_set _ _ _ _) (.inl rfl)) (grown_set _ _ _ _) (.inl rfl)) (grown_set _ _ _ _) (.inl rfl)
set_option maxHeartbeats 32000000 in
theorem bounds_any (w : World) : Calls Tryd.prog 8 #[] w (fun e w' => e = .returned (.bool true) ∧ Below w.heap.size w w') := by
  obtain ⟨i0, hi, hz0, hz1, hz2⟩ := info_parts infoU8
  have HI := Lib.hid hi
  have HZ0 := Lib.hid hz0
  have HZ1 := Lib.hid hz1
  have HZ2 := Lib.hid hz2
  clear hi hz0 hz1 hz2
  go_enter Tryd.func8, Tryd.ntmps8
  go_upto_region 2 with (refine store_new (mcells_size N0_ok) (mcells_all _) rfl (.tmp 1) (.tmp 33) rfl rfl (congrArg Value.agg cn0) ?_)
  have hb1 : Below w.heap.size w (w.alloc (.cells (mcells N0) 27)) := (Below.refl _ _).alloc (Nat.le_refl _) _
  have HM1 : Hid (MBlk (w.alloc (.cells (mcells N0) 27)) w.heap.size (NB 0)) := Lib.hid ⟨by rw [NB_first]; exact heap_alloc_new w (.cells (mcells N0) 27)⟩
  have HB1 := Lib.hid hb1
  clear hb1
  generalize w.alloc (.cells (mcells N0) 27) = w1 at *
  go_wp2_with fail
  go_loopg [2] 96 (fun kk i wr => ∃ j : Nat, i = .int .i64 (j : Int) ∧ Hid (j + kk = 96 ∧ j ≤ 96) ∧ Hid (MBlk wr w.heap.size (NB j)) ∧ Hid (Below w.heap.size w wr))
  case atStart => exact ⟨0, rfl, ⟨by omega, by omega⟩, HM1, HB1⟩
  case round =>
    clear HM1 HB1
    obtain ⟨j, rfl, hj, HM, HB⟩ := hrel
    by_cases hlt : j < 96
    · have hz : ∃ u, ‹World›.cell? ⟨w.heap.size, 7 + j, none⟩ = some u := by
        refine ⟨.int .u8 ((((NB j).body[j]?).getD 0).toNat : Int), ?_⟩
        rw [HM.out.cell, mcells_body]
        have : j < (NB j).body.length := by rw [(NB_ok hj.out.2).body]; exact hlt
        simp only [bv, List.getElem?_map, List.getElem?_eq_getElem this, Option.map_some, Option.getD_some]
      obtain ⟨u, hu⟩ := hz
      have hf := HM.out.free (7 + j)
      go_wp2_with fail
      go_roundg (gk - 1)
      case measure => have := hj.out; omega
      case rel => exact ⟨j + 1, (by go_num), ⟨(by have := hj.out; omega), (by omega)⟩, HM.out.set (NB_step hlt), HB.out.setCell (Nat.le_refl _) _⟩
    · have hje : j = 96 := by have := hj.out; omega
      subst hje
      rw [NB_last] at HM
      have hbw := HB.out
      clear hj hlt
      go_wp2_with (refine load_msg (mcells_size N1_ok) rfl (.tmp 1) rfl w.heap.size rfl HM.out.blk ?_)
      refine (msg_put_yes N1 N1_ok N1_may _).mono ?_
      rintro e w3 ⟨gp, cp, rfl, ho, hb⟩
      have HO3 := Lib.hid (own_lower ho hbw.size)
      have HM3 := Lib.hid (HM.out.below hb)
      have HB3 := Lib.hid (Bl.step HB.out hb)
      have HQ := Lib.hid (put_extra N1_ok N1_may 0)
      have HGW : Hid (w.heap.size < gp) := Lib.hid (by have := (ho.lt gp rfl).1; have := HM.out.lt; omega)
      have HLN := Lib.hid (putB_len2 N1_ok N1_may)
      generalize putB N1 = P at *
      clear ho hb hbw HM HB
      go_upto_region 8 with (fail)
      have hb := (Below.refl w3.heap.size w3).alloc (Nat.le_refl _) (.cells Tryd.zeroCells64 64)
      have HR4 : Hid (RBlk (w3.alloc (.cells Tryd.zeroCells64 64)) w3.heap.size 64 (NF 0)) := Lib.hid ⟨by rw [← cnf]; exact heap_alloc_new w3 _⟩
      have HO4 := Lib.hid (own_below HO3.out hb)
      have HM4 := Lib.hid (HM3.out.below hb)
      have HB4 := Lib.hid (Bl.step HB3.out hb)
      have h5 : w.heap.size < w3.heap.size := HM3.out.lt
      have hgp : gp < w3.heap.size := (HO3.out.lt gp rfl).2
      clear hb
      obtain ⟨b5, hb5⟩ : ∃ b5, b5 = w3.heap.size := ⟨_, rfl⟩
      rw [← hb5] at HR4 h5 hgp ⊢
      clear HO3 HM3 HB3 hb5
      generalize w3.alloc (.cells Tryd.zeroCells64 64) = w4 at *
      go_wp2_with fail
      go_loopg [6] 5 (fun kk i wr => ∃ j : Nat, i = .int .i64 (j : Int) ∧ Hid (j + kk = 5 ∧ j ≤ 5) ∧ Hid (RBlk wr b5 64 (NF j)) ∧ Hid (MBlk wr w.heap.size N1) ∧ Hid (wr.ownsRow w.heap.size 5 1 (.slice (some ⟨gp, 0, none⟩) P.length cp) P.length (bv P)) ∧ Hid (Below w.heap.size w wr))
      case atStart => exact ⟨0, rfl, ⟨by omega, by omega⟩, HR4, HM4, HO4, HB4⟩
      case round =>
        clear HR4 HM4 HO4 HB4
        obtain ⟨j, rfl, hj, HR, HM, HO, HB⟩ := hrel
        by_cases hlt : j < 5
        · go_upto_region 10 with (first | (refine load_msg (mcells_size N1_ok) rfl (.tmp 1) rfl w.heap.size rfl HM.out.blk ?_) | (refine store_in rfl (.tmp 52) (.tmp 51) rfl _ rfl (by omega) rfl HR.out (NF_ok j) (NF_at hlt) N1_ok ?_))
          rw [NF_step hlt]
          go_wp2_with fail
          go_roundg (gk - 1)
          case measure => have := hj.out; omega
          case rel => exact ⟨j + 1, (by go_num), ⟨(by have := hj.out; omega), (by omega)⟩, HR.out.row, HM.out.move (setRow_grown _ b5 _) (fun e => by injection e with e; omega), kept_b HO.out (setRow_grown _ b5 _) hgp, HB.out.trans (below_of_row _ b5 _ (by omega))⟩
        · have hje : j = 5 := by have := hj.out; omega
          subst hje
          clear hj hlt
          have hblk := HR.out.blk
          have qf : ∀ i, ‹World›.frozen? ⟨b5, i, none⟩ = false := fun i => by simp [World.frozen?, hblk]
          have q1 : ‹World›.cell? ⟨b5, 1, none⟩ = some (.int .i64 15) := by rw [cell_of_row _ b5 _ _ _ (0, 0) hblk]; kernel_rfl
          have q2 : ‹World›.cell? ⟨b5, 106, none⟩ = some (.int .i64 2) := by rw [cell_of_row _ b5 _ _ _ (0, 0) hblk]; kernel_rfl
          have q3 : ‹World›.cell? ⟨b5, 211, none⟩ = some (.int .i64 2147483647) := by rw [cell_of_row _ b5 _ _ _ (0, 0) hblk]; kernel_rfl
          have q4 : ‹World›.cell? ⟨b5, 314, none⟩ = some (.int .i64 2147483647) := by rw [cell_of_row _ b5 _ _ _ (0, 0) hblk]; kernel_rfl
          have q5 : ‹World›.cell? ⟨b5, 412, none⟩ = some (.int .i64 7) := by rw [cell_of_row _ b5 _ _ _ (0, 0) hblk]; kernel_rfl
          have q6 : ‹World›.cell? ⟨b5, 2, none⟩ = some (.int .i64 4611686018427387904) := by rw [cell_of_row _ b5 _ _ _ (0, 0) hblk]; kernel_rfl
          clear hblk
          go_upto_region 14 with (fail)
          clear qf q1 q2 q3 q4 q5 q6
          have HR5 := Lib.hid (six_blk HR.out)
          have hg := six_grown wr b5
          have HM5 := Lib.hid (HM.out.move hg (fun e => by injection e with e; omega))
          have HO5 := Lib.hid (kept_b HO.out hg hgp)
          have HB5 := Lib.hid (Bl.grown HB.out hg (fun k e => by injection e with e; omega))
          clear HR HM HO HB hg
          rw [show (((((wr.setCell ⟨b5, 1, none⟩ (.int .i64 16)).setCell ⟨b5, 106, none⟩ (.int .i64 3)).setCell ⟨b5, 211, none⟩ (.int .i64 2147483648)).setCell ⟨b5, 314, none⟩ (.int .i64 0)).setCell ⟨b5, 412, none⟩ (.int .i64 14)).setCell ⟨b5, 2, none⟩ (.int .i64 4611686018427387905) = sixW wr b5 from rfl]
          generalize sixW wr b5 = w5 at *
          clear h5 hgp
          go_wp2_with fail
          go_loopg [7] 5 (fun kk i wr => ∃ j : Nat, i = .int .i64 (j : Int) ∧ Hid (j + kk = 5 ∧ j ≤ 5) ∧ Hid (RBlk wr b5 64 R5) ∧ Hid (MBlk wr w.heap.size N1) ∧ Hid (wr.ownsRow w.heap.size 5 1 (.slice (some ⟨gp, 0, none⟩) P.length cp) P.length (bv P)) ∧ Hid (Below w.heap.size w wr))
          case atStart => exact ⟨0, rfl, ⟨by omega, by omega⟩, HR5, HM5, HO5, HB5⟩
          case round =>
            clear HR5 HM5 HO5 HB5
            obtain ⟨j, rfl, hj, HR, HM, HO, HB⟩ := hrel
            by_cases hlt : j < 5
            · obtain ⟨m, hm⟩ : ∃ m, R5[j]? = some m := ⟨_, List.getElem?_eq_getElem (show j < R5.length from hlt)⟩
              have hno := no_of R5_no hm
              have hok : m.Ok := R5_ok m (List.mem_of_getElem? hm)
              have HMC := Lib.hid hm
              clear hm
              go_wp2_with (refine load_in rfl (.tmp 75) rfl _ rfl (by omega) HR.out R5_ok HMC.out ?_)
              refine (msg_put_no m hok hno _).mono ?_
              rintro e w6 ⟨rfl, hb⟩
              go_wp2_with (go_at_call 12; refine (num18_any _ _).mono ?_; rintro e w' ⟨rfl, rfl⟩)
              go_roundg (gk - 1)
              case measure => have := hj.out; omega
              case rel => exact ⟨j + 1, (by go_num), ⟨(by have := hj.out; omega), (by omega)⟩, HR.out.below hb, HM.out.below hb, own_below HO.out hb, Bl.step HB.out hb⟩
            · have hje : j = 5 := by have := hj.out; omega
              subst hje
              clear hj hlt
              go_upto_region 20 with (fail)
              have hwr := HB.out.size
              go_wp2_with (at_make; refine wpList_make_full _ rfl _ _ 28 rfl w.heap.size 5 i0 (.int .u8 0) 1 Tryd.underlying28 HI.out HZ0.out HZ1.out .i64 .i64 _ _ 257 rfl rfl rfl rfl (by rw [HZ2.out]; omega) (by simp only [maxLen]; omega) hwr ?_; rw [made257]; intro w7 ho hg)
              have hb := below_of_grown hg
              have hA := own_at ho
              refine (msg_read _ 257 (List.replicate 257 0) _ hA (by simp)).mono ?_
              rw [z257]
              rintro e w8 ⟨rfl, hb2⟩
              have hbb := Bl.step hb hb2
              have HM8 := Lib.hid (HM.out.below hbb)
              have HO8 := Lib.hid (own_below HO.out hbb)
              have HB8 := Lib.hid (Bl.step HB.out hbb)
              clear hwr ho hg hb hA hb2 hbb HM HO HB HR
              go_upto_region 21 with (refine store_new zero_size zero_all rfl (.tmp 10) (.tmp 86) rfl rfl rfl ?_)
              have hb := (Below.refl w8.heap.size w8).alloc (Nat.le_refl _) (.cells Tryd.zeroCells27 27)
              have HM9 := Lib.hid (HM8.out.below hb)
              have HO9 := Lib.hid (own_below HO8.out hb)
              have HB9 := Lib.hid (Bl.step HB8.out hb)
              clear hb HM8 HO8 HB8
              generalize w8.alloc (.cells Tryd.zeroCells27 27) = w9 at *
              have hs9 := HB9.out.size
              have hpl := HLN.out
              go_wp2_with (at_builtin; refine app_byte rfl _ _ 28 rfl w.heap.size 5 Tryd.underlying28 infoU8 _ P rfl HO9.out _ 0 rfl rfl (by omega) hs9 ?_; intro v10 w10 ho10 hg10 hv10)
              have HM10 := Lib.hid (HM9.out.move hg10 (fun e => by have e : some w.heap.size = some gp := e; injection e with e; have := HGW.out; omega))
              have HB10 := Lib.hid (Bl.grown HB9.out hg10 (fun k hk => (HO9.out.lt k hk).1))
              obtain ⟨g10, c10, rfl⟩ := own_pos ho10 (by simp)
              have hA := own_at ho10
              clear ho10 hg10 hv10 HM9 HO9 HB9 hs9
              go_wp2_with fail
              refine (msg_read _ c10 (P ++ [0]) _ hA (by simp; omega)).mono ?_
              rw [readV_none (by simp; omega) HQ.out]
              rintro e w11 ⟨rfl, hb⟩
              have HM11 := Lib.hid (HM10.out.below hb)
              have HB11 := Lib.hid (Bl.step HB10.out hb)
              clear hb hA HM10 HB10 hpl
              go_upto_region 22 with (refine store_new zero_size zero_all rfl (.tmp 12) (.tmp 93) rfl rfl rfl ?_)
              have hb := (Below.refl w11.heap.size w11).alloc (Nat.le_refl _) (.cells Tryd.zeroCells27 27)
              have HM12 := Lib.hid (HM11.out.below hb)
              have HB12 := Lib.hid (Bl.step HB11.out hb)
              clear hb HM11 HB11
              generalize w11.alloc (.cells Tryd.zeroCells27 27) = w12 at *
              have hs12 := HB12.out.size
              go_upto_region 23 with (first
                | (at_make; refine wpList_make_full w12 rfl _ _ 28 rfl w.heap.size 5 i0 (.int .u8 0) 1 Tryd.underlying28 HI.out HZ0.out HZ1.out .i64 .i64 _ _ 256 rfl rfl rfl rfl (by rw [HZ2.out]; omega) (by simp only [maxLen]; omega) hs12 ?_; rw [made256]; intro w13 ho hg; have hb := below_of_grown hg; have HA13 := Lib.hid (own_at ho); have HM13 := Lib.hid (HM12.out.below hb); have HB13 := Lib.hid (Bl.step HB12.out hb); clear ho hg hb HM12 HB12)
                | (refine store_dg_new (dcells_size D1 (some ⟨w12.heap.size, 0, none⟩) 256) (dcells_all _ _ _) rfl (.tmp 14) (.tmp 96) rfl rfl rfl ?_))
              have hb := (Below.refl w13.heap.size w13).alloc (Nat.le_refl _) (.cells (dcells D1 (some ⟨w12.heap.size, 0, none⟩) 256) 53)
              have HD14 := Lib.hid (heap_alloc_new w13 (.cells (dcells D1 (some ⟨w12.heap.size, 0, none⟩) 256) 53))
              have HA14 := Lib.hid (HA13.out.mono hb)
              have HM14 := Lib.hid (HM13.out.below hb)
              have HB14 := Lib.hid (Bl.step HB13.out hb)
              have HS14 := Lib.hid hb.size
              have hlt13 := HM13.out.lt
              clear hb HA13 HM13 HB13 hs12
              obtain ⟨gd, hgd⟩ : ∃ gd, gd = w13.heap.size := ⟨_, rfl⟩
              have HGD : Hid (w.heap.size < gd) := Lib.hid (by rw [hgd]; exact hlt13)
              rw [← hgd] at HD14 ⊢
              clear hgd hlt13 HS14
              generalize w13.alloc (.cells (dcells D1 (some ⟨w12.heap.size, 0, none⟩) 256) 53) = w14 at *
              generalize w12.heap.size = ga at *
              go_wp2_with (refine load_dg (dcells_size D1 _ _) rfl (.tmp 14) rfl gd rfl HD14.out ?_)
              refine (putD_yes D1 (some ⟨ga, 0, none⟩) 256 _ (fun u => mayD_walk D1 _ _ u D1_len) D1_may HA14.out).mono ?_
              rintro e w15 ⟨g15, c15, rfl, ho15, hb⟩
              have HPL := Lib.hid (putD_len D1_may)
              have HD15 := Lib.hid ((hb.block _ (Array.getElem?_eq_some_iff.1 HD14.out).1).trans HD14.out)
              have HM15 := Lib.hid (HM14.out.below hb)
              have HB15 := Lib.hid (Bl.step HB14.out hb)
              clear hb ho15 HD14 HM14 HB14 HA14
              generalize (putD D1).length = pn at *
              have hs15 := HB15.out.size
              go_upto_region 25 with (at_make; refine wpList_make_full w15 rfl _ _ 28 rfl w.heap.size 5 i0 (.int .u8 0) 1 Tryd.underlying28 HI.out HZ0.out HZ1.out .i64 .i64 _ _ 257 rfl rfl rfl rfl (by rw [HZ2.out]; omega) (by simp only [maxLen]; omega) hs15 ?_; intro w16 ho hg; have hb := below_of_grown hg; have HM16 := Lib.hid (HM15.out.below hb); have HB16 := Lib.hid (Bl.step HB15.out hb); have HD16 := Lib.hid ((hb.block _ (Array.getElem?_eq_some_iff.1 HD15.out).1).trans HD15.out); have q5 := (dg_cells HD16.out).2.2.2.2.2; have qf := dg_free 5 HD16.out; clear ho hg hb HM15 HB15 HD15)
              have HD17 := Lib.hid (dg_set (cs' := dcells D2 (some ⟨w15.heap.size, 0, none⟩) 257) 5 (.slice (some ⟨w15.heap.size, 0, none⟩) 257 257) HD16.out rfl)
              have HM17 := Lib.hid (HM16.out.move (grown_set _ gd 5 (.slice (some ⟨w15.heap.size, 0, none⟩) 257 257)) (fun e => by injection e with e; have := HGD.out; omega))
              have HB17 := Lib.hid (HB16.out.setCell (p := ⟨gd, 5, none⟩) (Nat.le_of_lt HGD.out) (.slice (some ⟨w15.heap.size, 0, none⟩) 257 257))
              clear HD16 HM16 HB16 q5 qf hs15
              generalize w16.setCell ⟨gd, 5, none⟩ (.slice (some ⟨w15.heap.size, 0, none⟩) 257 257) = w17 at *
              generalize w15.heap.size = gb at *
              go_wp2_with (refine load_dg (dcells_size D2 _ _) rfl (.tmp 14) rfl gd rfl HD17.out ?_)
              refine (putD_no D2 (some ⟨gb, 0, none⟩) 257 _ (fun u => mayD_walk D2 _ _ u D2_len) D2_no).mono ?_
              rintro e w18 ⟨rfl, hb⟩
              have HM18 := Lib.hid (HM17.out.below hb)
              have HB18 := Lib.hid (Bl.step HB17.out hb)
              clear hb HM17 HB17 HD17
              go_wp2_with fail
              refine (putD_no D3 (some ⟨w18.heap.size, 0, none⟩) 1 _ (fun u => mayD_walk D3 _ _ u D3_len) D3_no).mono ?_
              rintro e w19 ⟨rfl, hb⟩
              have hbb := Bl.step ((Below.refl w18.heap.size w18).alloc (Nat.le_refl _) _) hb
              have HM19 := Lib.hid (HM18.out.below hbb)
              have HB19 := Lib.hid (Bl.step HB18.out hbb)
              clear hb hbb HM18 HB18
              go_wp2_with fail
              refine (putD_no D4 none 0 _ (fun u => mayD_walk D4 _ _ u D4_len) D4_no).mono ?_
              rintro e w20 ⟨rfl, hb⟩
              have HM20 := Lib.hid (HM19.out.below hb)
              have HB20 := Lib.hid (Bl.step HB19.out hb)
              clear hb HM19 HB19
              have hs20 := HB20.out.size
              go_wp2_with (at_make; refine wpList_make_full w20 rfl _ _ 28 rfl w.heap.size 5 i0 (.int .u8 0) 1 Tryd.underlying28 HI.out HZ0.out HZ1.out .i64 .i64 _ _ 513 rfl rfl rfl rfl (by rw [HZ2.out]; omega) (by simp only [maxLen]; omega) hs20 ?_; rw [made513]; intro w21 ho hg)
              have hb := below_of_grown hg
              have hA := own_at ho
              refine (msg_readD _ 513 (List.replicate 513 0) _ hA (by simp only [List.length_replicate]; omega)).mono ?_
              rw [z513]
              rintro e w22 ⟨A22, c22, rfl, _, _, hb2⟩
              have hbb := Bl.step hb hb2
              have HM22 := Lib.hid (HM20.out.below hbb)
              have HB22 := Lib.hid (Bl.step HB20.out hbb)
              clear hs20 ho hg hb hA hb2 hbb HM20 HB20
              go_upto_region 29 with (refine store_dg_new (dcells_size noD A22 c22) (dcells_all _ _ _) rfl (.tmp 23) (.tmp 123) rfl rfl rfl ?_)
              have hb := (Below.refl w22.heap.size w22).alloc (Nat.le_refl _) (.cells (dcells noD A22 c22) 53)
              have HM23 := Lib.hid (HM22.out.below hb)
              have HB23 := Lib.hid (Bl.step HB22.out hb)
              clear hb HM22 HB22
              generalize w22.alloc (.cells (dcells noD A22 c22) 53) = w23 at *
              have hAB : At w23 (some ⟨w.heap.size, 7, none⟩) (bv (List.replicate 96 255)) := fun j u hj => ⟨_, rfl, by
                rw [Addr.add_mid, HM23.out.cell, mcells_body]
                exact hj⟩
              have HLB := Lib.hid (fun (u : World) (h : At u (some ⟨w.heap.size, 7, none⟩) (bv (List.replicate 96 255))) => body_load (w := u) (List.length_replicate : (List.replicate 96 (255 : UInt8)).length = 96) h)
              have HAB := Lib.hid hAB
              clear hAB
              go_wp2_with (refine wpList_load_cells rfl 25 (.tmp 127) rfl ⟨w.heap.size, 7, none⟩ rfl (bodyV (List.replicate 96 255)) (HLB.out _ HAB.out) ?_; refine stop_toD ?_)
              refine Lib.hid ?_
              refine wpList_buildTo rfl 27 _ rfl (some 129) rfl (mcells Q2) ((congrArg (Tryd.prog.built 27) (by kernel_rfl)).trans bb2) ?_
              go_wp2_with (refine wpList_load_cells rfl 25 (.tmp 130) rfl ⟨w.heap.size, 7, none⟩ rfl (bodyV (List.replicate 96 255)) (HLB.out _ HAB.out) ?_; refine stop_toD ?_)
              refine Lib.hid ?_
              refine wpList_buildTo rfl 27 _ rfl (some 132) rfl (mcells Q3) ((congrArg (Tryd.prog.built 27) (by kernel_rfl)).trans bb3) ?_
              refine wpList_buildTo rfl 27 _ rfl (some 133) rfl (mcells Q4) ((congrArg (Tryd.prog.built 27) (by kernel_rfl)).trans bb4) ?_
              refine wpList_buildTo rfl 27 _ rfl (some 134) rfl (mcells Q5) ((congrArg (Tryd.prog.built 27) (by kernel_rfl)).trans bb5) ?_
              refine Great.wpList_buildSliceTo rfl 65 27 6 _ rfl w23.heap.size rfl (some 135) rfl Tryd.underlying65 (rowsL R6).toArray ((congrArg (Tryd.prog.builtSlice 27 6) (by kernel_rfl)).trans bbs) ?_
              have hb := (Below.refl w23.heap.size w23).alloc (Nat.le_refl _) (.cells (rowsL R6).toArray 27)
              have HR24 : Hid (RBlk (w23.alloc (.cells (rowsL R6).toArray 27)) w23.heap.size 27 R6) := Lib.hid ⟨heap_alloc_new w23 _⟩
              have HB24 := Lib.hid (Bl.step HB23.out hb)
              clear hb HM23 HB23 HLB HAB
              generalize w23.heap.size = b6 at *
              generalize w23.alloc (.cells (rowsL R6).toArray 27) = w24 at *
              go_wp2_with fail
              go_loopg [26] 6 (fun kk i wr => ∃ j : Nat, i = .int .i64 (j : Int) ∧ Hid (j + kk = 6 ∧ j ≤ 6) ∧ Hid (RBlk wr b6 27 R6) ∧ Hid (Below w.heap.size w wr))
              case atStart => exact ⟨0, rfl, ⟨by omega, by omega⟩, HR24, HB24⟩
              case round =>
                clear HR24 HB24
                obtain ⟨j, rfl, hj, HR, HB⟩ := hrel
                by_cases hlt : j < 6
                · obtain ⟨m, hm⟩ : ∃ m, R6[j]? = some m := ⟨_, List.getElem?_eq_getElem (show j < R6.length from hlt)⟩
                  have hno := no_of R6_no hm
                  have hok : m.Ok := R6_ok m (List.mem_of_getElem? hm)
                  have HMC := Lib.hid hm
                  clear hm
                  go_wp2_with (refine load_in rfl (.tmp 145) rfl _ rfl (by omega) HR.out R6_ok HMC.out ?_)
                  refine (msg_put_no m hok hno _).mono ?_
                  rintro e w6 ⟨rfl, hb⟩
                  go_wp2_with (go_at_call 12; refine (num18_any _ _).mono ?_; rintro e w' ⟨rfl, rfl⟩)
                  go_roundg (gk - 1)
                  case measure => have := hj.out; omega
                  case rel => exact ⟨j + 1, (by go_num), ⟨(by have := hj.out; omega), (by omega)⟩, HR.out.below hb, Bl.step HB.out hb⟩
                · have hje : j = 6 := by have := hj.out; omega
                  subst hje
                  clear hj hlt HR
                  go_wp2_with fail
                  rw [b7f]
                  refine (msg_put_no N7 N7_ok N7_no _).mono ?_
                  rintro e w30 ⟨rfl, hb⟩
                  have HB30 := Lib.hid (Bl.step HB.out hb)
                  clear hb HB
                  go_wp2_with fail
                  rw [b8e]
                  refine (msg_put_yes N8 N8_ok N8_may _).mono ?_
                  rintro e w31 ⟨g31, c31, rfl, ho, hb⟩
                  have HB31 := Lib.hid (Bl.step HB30.out hb)
                  generalize (putB N8).length = n31 at *
                  clear hb ho HB30
                  have hpn : (pn : Int) ≤ 512 := by have := HPL.out; omega
                  go_wp2_with (first | (go_at_call 12; refine (num18_any _ _).mono ?_; rintro e w' ⟨rfl, rfl⟩) | (go_at_call 13; refine (known18_any _).mono ?_; rintro e w32 ⟨rfl, hb32⟩))
                  go_ret
                  exact ⟨rfl, Bl.step HB31.out hb32⟩
end Go.Proofs.YtemmdlanidepbaaDoor
