/- Contract of message.Read. Contract of message.Read, whole. -/
import Derived.Test.YtemmdlanidepbaaDoorWhole
import Derived.Test.YtemmdlanidepbaaDoorEqual
namespace Go.Proofs.YtemmdlanidepbaaDoor
open Go.RowKit
set_option linter.unusedSimpArgs false
set_option maxRecDepth 100000

/-- the message of bytes -/
def readM (l : List UInt8) : Option Msg := match parse l with
  | some (m, p) => if p < l.length then none else if mayM m = true ∧ putB m = l then some m else none
  | none => none
/-- what Read answers -/
noncomputable def readV (l : List UInt8) : Array Value × Int :=
  if 256 < l.length then (Tryd.zeroCells27, 3) else match readM l with
  | some m => (mcells m, 0)
  | none => (Tryd.zeroCells27, 4)
theorem read_results (tmps : Array Value) (w : World) (px : Nat) (cs : Array Value) (z : Int) (hp : tmps.getD 2 undef = .pointer (some ⟨px, 0, none⟩)) (hq : tmps.getD 3 undef = .int .i64 z) (hs : cs.size = 103)
    (hx : w.heap[px]? = some (.cells cs 27 (0, 0))) : (results Tryd.f14 tmps).run Tryd.prog w = .ok (.tuple #[.agg cs, .int .i64 z]) w := by
  have hp' : tmps[2]?.getD undef = .pointer (some ⟨px, 0, none⟩) := by simpa using hp
  have hq' : tmps[3]?.getD undef = .int .i64 z := by simpa using hq
  have l1 := run_loadVar_row (P := Tryd.prog) w px 27 27 cs (0, 0) _ hx Tryd.underlying27 rfl (by rw [hs]; exact infoMsg)
  have h : Tryd.f14.results = #[.cell 2 27, .tmp 3] := rfl
  simp [results, h, hp', hq', asAddr, l1]
def ReadR (w : World) (v : Array Value × Int) (e : Ending) (w' : World) : Prop := e = .returned (.tuple #[.agg v.1, .int .i64 v.2]) ∧ Below w.heap.size w w'
theorem read_end {w0 W : World} {a : Act} {px : Nat} {cs : Array Value} {z : Int} (hp : a.tmps.getD 2 undef = .pointer (some ⟨px, 0, none⟩)) (hq : a.tmps.getD 3 undef = .int .i64 z) (hd : a.defers = []) (hs : cs.size = 103) (hx : W.heap[px]? = some (.cells cs 27 (0, 0))) (hb : Below w0.heap.size w0 W) :
    bodyPost Tryd.prog Tryd.f14 (ReadR w0 (cs, z)) .ret a W := bodyPost_ret (v := .tuple #[.agg cs, .int .i64 z]) (read_results a.tmps W px cs z hp hq hs hx) hd ⟨rfl, hb⟩
theorem zero_info : (Tryd.prog.info? 27).map (·.size) = some Tryd.zeroCells27.size := by rw [zero_size]; exact infoMsg
set_option maxHeartbeats 4000000 in
theorem read_long (A : Option Addr) (c : Nat) (l : List UInt8) (w : World) (hl : 256 < l.length) (hl2 : l.length ≤ 140737488355328) : Calls Tryd.prog 14 #[.slice A l.length c] w (ReadR w (Tryd.zeroCells27, 3)) := by
  have hx0 := heap_alloc_new w (.cells Tryd.zeroCells27 27)
  have HB0 : Hid (Below w.heap.size w (w.alloc (.cells Tryd.zeroCells27 27))) := Lib.hid ((Below.refl _ _).alloc (Nat.le_refl _) _)
  have HX0 := Lib.hid hx0
  clear hx0
  go_enter Tryd.func14, Tryd.ntmps14
  go_wp2_with (refine wpList_store_row rfl 27 (.tmp 2) (.tmp 11) rfl w.heap.size Tryd.zeroCells27 rfl rfl 27 _ HX0.out zero_info rfl zero_all ?_)
  exact read_end rfl rfl rfl zero_size (setRow_at HX0.out) (Bl.grown HB0.out (setRow_grown _ _ _) (fun k hk => by injection hk with hk; omega))
theorem readM_none {l : List UInt8} (h : (wholeV l).2 = 4) : readM l = none := by
  unfold wholeV at h
  unfold readM
  cases hp : parse l with
  | none => rfl
  | some r =>
    obtain ⟨m, p⟩ := r
    rw [hp] at h
    simp only at h ⊢
    by_cases hlt : p < l.length
    · rw [if_pos hlt]
    · rw [if_neg hlt] at h
      cases h
set_option maxHeartbeats 4000000 in
theorem read_bad (A : Option Addr) (c : Nat) (l : List UInt8) (w : World) (hA : At w A (bv l)) (hl : l.length ≤ 256) (hv : wholeV l = (Tryd.zeroCells27, 4)) : Calls Tryd.prog 14 #[.slice A l.length c] w (ReadR w (Tryd.zeroCells27, 4)) := by
  have hx0 := heap_alloc_new w (.cells Tryd.zeroCells27 27)
  have hb0 : Below w.heap.size w (w.alloc (.cells Tryd.zeroCells27 27)) := (Below.refl _ _).alloc (Nat.le_refl _) _
  have hl3 : ¬ 256 < l.length := by omega
  have HW := Lib.hid (whole_any A c l _ (hA.mono hb0) (by omega))
  rw [hv] at HW
  have HB0 := Lib.hid hb0
  have HX0 := Lib.hid hx0
  clear hx0 hb0 hv
  go_enter Tryd.func14, Tryd.ntmps14
  go_wp2_with fail
  refine HW.out.mono ?_
  rintro e w1 ⟨rfl, hb⟩
  have HX1 := Lib.hid ((hb.block w.heap.size (by simp)).trans HX0.out)
  have HB1 := Lib.hid (Bl.step HB0.out hb)
  clear hb HX0 HB0
  have HX2 := Lib.hid (((Below.refl w1.heap.size w1).alloc (Nat.le_refl _) (.cells Tryd.zeroCells27 27)).block _ (Array.getElem?_eq_some_iff.1 HX1.out).1 |>.trans HX1.out)
  have HB2 := Lib.hid (HB1.out.alloc HB1.out.size (.cells Tryd.zeroCells27 27))
  go_wp2_with (first | (refine wpList_store_row rfl 27 (.tmp 4) (.tmp 15) rfl w1.heap.size Tryd.zeroCells27 rfl rfl 27 _ (heap_alloc_new w1 _) zero_info rfl zero_all ?_; rw [World.setRow_alloc_new]) | (refine wpList_store_row rfl 27 (.tmp 2) (.tmp 19) rfl w.heap.size Tryd.zeroCells27 rfl rfl 27 _ HX2.out zero_info rfl zero_all ?_))
  exact read_end rfl rfl rfl zero_size (setRow_at HX2.out) (Bl.grown HB2.out (setRow_grown _ _ _) (fun k hk => by injection hk with hk; omega))
section
variable (A : Option Addr) (c : Nat) (l : List UInt8) (w : World) (hA : At w A (bv l)) (hl : l.length ≤ 256) (m : Msg) (hm : m.Ok) (hv : wholeV l = (mcells m, 0))
include hA hl hm hv
set_option maxHeartbeats 4000000 in
theorem read_no (HPut : ∀ W, Calls Tryd.prog 9 #[.agg (mcells m)] W (fun e w' => e = .returned (.tuple #[.slice none 0 0, .int .i64 2]) ∧ Below W.heap.size W w')) : Calls Tryd.prog 14 #[.slice A l.length c] w (ReadR w (Tryd.zeroCells27, 4)) := by
  have hx0 := heap_alloc_new w (.cells Tryd.zeroCells27 27)
  have hb0 : Below w.heap.size w (w.alloc (.cells Tryd.zeroCells27 27)) := (Below.refl _ _).alloc (Nat.le_refl _) _
  have hl3 : ¬ 256 < l.length := by omega
  have hA0 := hA.mono hb0
  have HW := Lib.hid (whole_any A c l _ hA0 (by omega))
  rw [hv] at HW
  have HS := Lib.hid (mcells_size hm)
  have HALL := Lib.hid (mcells_all m)
  have HP := Lib.hid HPut
  have HA0 := Lib.hid hA0
  have HB0 := Lib.hid hb0
  have HX0 := Lib.hid hx0
  clear hx0 hb0 hv HPut hA0 hA
  obtain ⟨mc, hmc⟩ : ∃ mc, mc = mcells m := ⟨_, rfl⟩
  rw [← hmc] at HW HS HALL HP
  clear hmc
  go_enter Tryd.func14, Tryd.ntmps14
  go_wp2_with fail
  refine HW.out.mono ?_
  rintro e w1 ⟨rfl, hb⟩
  have HX1 := Lib.hid ((hb.block w.heap.size (by simp)).trans HX0.out)
  have HB1 := Lib.hid (Bl.step HB0.out hb)
  have HA1 := Lib.hid (HA0.out.mono hb)
  clear hb HX0 HB0 HA0
  have hba := ((Below.refl w1.heap.size w1).alloc (Nat.le_refl _) (.cells mc 27))
  have HX2 := Lib.hid (hba.block _ (Array.getElem?_eq_some_iff.1 HX1.out).1 |>.trans HX1.out)
  have HB2 := Lib.hid (Bl.step HB1.out hba)
  have HA2 := Lib.hid (HA1.out.mono hba)
  have HY2 := Lib.hid (heap_alloc_new w1 (.cells mc 27))
  clear hba HX1 HB1 HA1
  go_upto_region 4 with (refine wpList_store_row rfl 27 (.tmp 4) (.tmp 15) rfl w1.heap.size mc rfl rfl 27 _ (heap_alloc_new w1 _) (infoMsg.trans (congrArg some HS.out.symm)) (by rw [zero_size]; exact HS.out.symm) HALL.out ?_; rw [World.setRow_alloc_new])
  have hxw : w.heap.size < (w1.alloc (.cells mc 27)).heap.size := (Array.getElem?_eq_some_iff.1 HX2.out).1
  generalize w1.alloc (.cells mc 27) = w2 at *
  go_wp2_with (refine wpList_load_row rfl 27 (.tmp 4) rfl w1.heap.size rfl 27 mc (0, 0) _ HY2.out Tryd.underlying27 rfl (infoMsg.trans (congrArg some HS.out.symm)) ?_)
  refine (HP.out _).mono ?_
  rintro e w3 ⟨rfl, hb⟩
  have HX3 := Lib.hid ((hb.block _ hxw).trans HX2.out)
  have HB3 := Lib.hid (Bl.step HB2.out hb)
  clear hb
  go_wp2_with (refine wpList_store_row rfl 27 (.tmp 2) (.tmp 34) rfl w.heap.size Tryd.zeroCells27 rfl rfl 27 _ HX3.out zero_info rfl zero_all ?_)
  exact read_end rfl rfl rfl zero_size (setRow_at HX3.out) (Bl.grown HB3.out (setRow_grown _ _ _) (fun k hk => by injection hk with hk; omega))
set_option maxHeartbeats 4000000 in
theorem read_other (HPut : ∀ W, Calls Tryd.prog 9 #[.agg (mcells m)] W (fun e w' => ∃ g c, e = .returned (.tuple #[.slice (some ⟨g, 0, none⟩) (putB m).length c, .int .i64 0]) ∧ At w' (some ⟨g, 0, none⟩) (bv (putB m)) ∧ Below W.heap.size W w')) (hne : putB m ≠ l) : Calls Tryd.prog 14 #[.slice A l.length c] w (ReadR w (Tryd.zeroCells27, 4)) := by
  have HNE := Lib.hid hne
  clear hne
  have hx0 := heap_alloc_new w (.cells Tryd.zeroCells27 27)
  have hb0 : Below w.heap.size w (w.alloc (.cells Tryd.zeroCells27 27)) := (Below.refl _ _).alloc (Nat.le_refl _) _
  have hl3 : ¬ 256 < l.length := by omega
  have hA0 := hA.mono hb0
  have HW := Lib.hid (whole_any A c l _ hA0 (by omega))
  rw [hv] at HW
  have HS := Lib.hid (mcells_size hm)
  have HALL := Lib.hid (mcells_all m)
  have HP := Lib.hid HPut
  have HA0 := Lib.hid hA0
  have HB0 := Lib.hid hb0
  have HX0 := Lib.hid hx0
  clear hx0 hb0 hv HPut hA0 hA
  obtain ⟨mc, hmc⟩ : ∃ mc, mc = mcells m := ⟨_, rfl⟩
  rw [← hmc] at HW HS HALL HP
  clear hmc
  go_enter Tryd.func14, Tryd.ntmps14
  go_wp2_with fail
  refine HW.out.mono ?_
  rintro e w1 ⟨rfl, hb⟩
  have HX1 := Lib.hid ((hb.block w.heap.size (by simp)).trans HX0.out)
  have HB1 := Lib.hid (Bl.step HB0.out hb)
  have HA1 := Lib.hid (HA0.out.mono hb)
  clear hb HX0 HB0 HA0
  have hba := ((Below.refl w1.heap.size w1).alloc (Nat.le_refl _) (.cells mc 27))
  have HX2 := Lib.hid (hba.block _ (Array.getElem?_eq_some_iff.1 HX1.out).1 |>.trans HX1.out)
  have HB2 := Lib.hid (Bl.step HB1.out hba)
  have HA2 := Lib.hid (HA1.out.mono hba)
  have HY2 := Lib.hid (heap_alloc_new w1 (.cells mc 27))
  clear hba HX1 HB1 HA1
  go_upto_region 4 with (refine wpList_store_row rfl 27 (.tmp 4) (.tmp 15) rfl w1.heap.size mc rfl rfl 27 _ (heap_alloc_new w1 _) (infoMsg.trans (congrArg some HS.out.symm)) (by rw [zero_size]; exact HS.out.symm) HALL.out ?_; rw [World.setRow_alloc_new])
  have hxw : w.heap.size < (w1.alloc (.cells mc 27)).heap.size := (Array.getElem?_eq_some_iff.1 HX2.out).1
  generalize w1.alloc (.cells mc 27) = w2 at *
  go_wp2_with (refine wpList_load_row rfl 27 (.tmp 4) rfl w1.heap.size rfl 27 mc (0, 0) _ HY2.out Tryd.underlying27 rfl (infoMsg.trans (congrArg some HS.out.symm)) ?_)
  refine (HP.out _).mono ?_
  rintro e w3 ⟨g3, c3, rfl, hA3, hb⟩
  have HX3 := Lib.hid ((hb.block _ hxw).trans HX2.out)
  have HB3 := Lib.hid (Bl.step HB2.out hb)
  have HA3 := Lib.hid hA3
  have HAL3 := Lib.hid (HA2.out.mono hb)
  clear hb hA3
  go_wp2_with fail
  refine (bytes_equal _ _ _ _ _ _ _ HA3.out HAL3.out).mono ?_
  rintro e w4 ⟨rfl, rfl⟩
  rw [decide_eq_false HNE.out]
  go_wp2_with (refine wpList_store_row rfl 27 (.tmp 2) (.tmp 34) rfl w.heap.size Tryd.zeroCells27 rfl rfl 27 _ HX3.out zero_info rfl zero_all ?_)
  exact read_end rfl rfl rfl zero_size (setRow_at HX3.out) (Bl.grown HB3.out (setRow_grown _ _ _) (fun k hk => by injection hk with hk; omega))
set_option maxHeartbeats 4000000 in
theorem read_same (HPut : ∀ W, Calls Tryd.prog 9 #[.agg (mcells m)] W (fun e w' => ∃ g c, e = .returned (.tuple #[.slice (some ⟨g, 0, none⟩) (putB m).length c, .int .i64 0]) ∧ At w' (some ⟨g, 0, none⟩) (bv (putB m)) ∧ Below W.heap.size W w')) (hne : putB m = l) : Calls Tryd.prog 14 #[.slice A l.length c] w (ReadR w (mcells m, 0)) := by
  have HNE := Lib.hid hne
  clear hne
  have hx0 := heap_alloc_new w (.cells Tryd.zeroCells27 27)
  have hb0 : Below w.heap.size w (w.alloc (.cells Tryd.zeroCells27 27)) := (Below.refl _ _).alloc (Nat.le_refl _) _
  have hl3 : ¬ 256 < l.length := by omega
  have hA0 := hA.mono hb0
  have HW := Lib.hid (whole_any A c l _ hA0 (by omega))
  rw [hv] at HW
  have HS := Lib.hid (mcells_size hm)
  have HALL := Lib.hid (mcells_all m)
  have HP := Lib.hid HPut
  have HA0 := Lib.hid hA0
  have HB0 := Lib.hid hb0
  have HX0 := Lib.hid hx0
  clear hx0 hb0 hv HPut hA0 hA
  obtain ⟨mc, hmc⟩ : ∃ mc, mc = mcells m := ⟨_, rfl⟩
  rw [← hmc] at HW HS HALL HP ⊢
  clear hmc
  go_enter Tryd.func14, Tryd.ntmps14
  go_wp2_with fail
  refine HW.out.mono ?_
  rintro e w1 ⟨rfl, hb⟩
  have HX1 := Lib.hid ((hb.block w.heap.size (by simp)).trans HX0.out)
  have HB1 := Lib.hid (Bl.step HB0.out hb)
  have HA1 := Lib.hid (HA0.out.mono hb)
  clear hb HX0 HB0 HA0
  have hba := ((Below.refl w1.heap.size w1).alloc (Nat.le_refl _) (.cells mc 27))
  have HX2 := Lib.hid (hba.block _ (Array.getElem?_eq_some_iff.1 HX1.out).1 |>.trans HX1.out)
  have HB2 := Lib.hid (Bl.step HB1.out hba)
  have HA2 := Lib.hid (HA1.out.mono hba)
  have HY2 := Lib.hid (heap_alloc_new w1 (.cells mc 27))
  clear hba HX1 HB1 HA1
  go_upto_region 4 with (refine wpList_store_row rfl 27 (.tmp 4) (.tmp 15) rfl w1.heap.size mc rfl rfl 27 _ (heap_alloc_new w1 _) (infoMsg.trans (congrArg some HS.out.symm)) (by rw [zero_size]; exact HS.out.symm) HALL.out ?_; rw [World.setRow_alloc_new])
  have hxw : w.heap.size < (w1.alloc (.cells mc 27)).heap.size := (Array.getElem?_eq_some_iff.1 HX2.out).1
  generalize w1.alloc (.cells mc 27) = w2 at *
  go_wp2_with (refine wpList_load_row rfl 27 (.tmp 4) rfl w1.heap.size rfl 27 mc (0, 0) _ HY2.out Tryd.underlying27 rfl (infoMsg.trans (congrArg some HS.out.symm)) ?_)
  have hyw := (Array.getElem?_eq_some_iff.1 HY2.out).1
  refine (HP.out _).mono ?_
  rintro e w3 ⟨g3, c3, rfl, hA3, hb⟩
  have HX3 := Lib.hid ((hb.block _ hxw).trans HX2.out)
  have HY3 := Lib.hid ((hb.block _ hyw).trans HY2.out)
  have HB3 := Lib.hid (Bl.step HB2.out hb)
  have HA3 := Lib.hid hA3
  have HAL3 := Lib.hid (HA2.out.mono hb)
  clear hb hA3
  go_wp2_with fail
  refine (bytes_equal _ _ _ _ _ _ _ HA3.out HAL3.out).mono ?_
  rintro e w4 ⟨rfl, rfl⟩
  rw [decide_eq_true HNE.out]
  go_wp2_with (first | (refine wpList_load_row rfl 27 (.tmp 4) rfl w1.heap.size rfl 27 mc (0, 0) _ HY3.out Tryd.underlying27 rfl (infoMsg.trans (congrArg some HS.out.symm)) ?_) | (refine wpList_store_row rfl 27 (.tmp 2) (.tmp 35) rfl w.heap.size mc rfl rfl 27 _ HX3.out (infoMsg.trans (congrArg some HS.out.symm)) (by rw [zero_size]; exact HS.out.symm) HALL.out ?_))
  exact read_end rfl rfl rfl HS.out (setRow_at HX3.out) (Bl.grown HB3.out (setRow_grown _ _ _) (fun k hk => by injection hk with hk; omega))
end
end Go.Proofs.YtemmdlanidepbaaDoor
namespace Go.Proofs.YtemmdlanidepbaaDoor
open Go.RowKit
set_option linter.unusedSimpArgs false
set_option maxRecDepth 100000

/-- May, as it is contracted -/
def MayC : Prop := ∀ m : Msg, m.Ok → ∀ W : World, Calls Tryd.prog 10 #[.agg (mcells m)] W (fun e w' => e = .returned (.bool (mayM m)) ∧ Below W.heap.size W w')
theorem readV_short {l : List UInt8} (hl : l.length ≤ 256) : readV l = match readM l with
  | some m => (mcells m, 0)
  | none => (Tryd.zeroCells27, 4) := by unfold readV; rw [if_neg (by omega)]; all_goals (cases readM l <;> rfl)
theorem read_any (HMay : MayC) (A : Option Addr) (c : Nat) (l : List UInt8) (w : World) (hA : At w A (bv l)) (hl : l.length ≤ 140737488355328) : Calls Tryd.prog 14 #[.slice A l.length c] w (ReadR w (readV l)) := by
  by_cases h : 256 < l.length
  · have e : readV l = (Tryd.zeroCells27, 3) := by unfold readV; rw [if_pos h]
    rw [e]
    exact read_long A c l w h hl
  · have h' : l.length ≤ 256 := by omega
    rw [readV_short h']
    cases hp : parse l with
    | none =>
      have hv : wholeV l = (Tryd.zeroCells27, 4) := by unfold wholeV; rw [hp]
      have hr : readM l = none := by unfold readM; rw [hp]
      rw [hr]
      exact read_bad A c l w hA h' hv
    | some r =>
      obtain ⟨m, p⟩ := r
      have hm := parse_ok hp
      by_cases hlt : p < l.length
      · have hv : wholeV l = (Tryd.zeroCells27, 4) := by unfold wholeV; rw [hp]; simp [hlt]
        have hr : readM l = none := by unfold readM; rw [hp]; simp [hlt]
        rw [hr]
        exact read_bad A c l w hA h' hv
      · have hv : wholeV l = (mcells m, 0) := by unfold wholeV; rw [hp]; simp [hlt]
        cases hy : mayM m with
        | false =>
          have hr : readM l = none := by unfold readM; rw [hp]; simp [hlt, hy]
          rw [hr]
          exact read_no A c l w hA h' m hm hv (fun W => put_no m hm W (HMay m hm) hy)
        | true =>
          have HP : ∀ W, Calls Tryd.prog 9 #[.agg (mcells m)] W (fun e w' => ∃ g c, e = .returned (.tuple #[.slice (some ⟨g, 0, none⟩) (putB m).length c, .int .i64 0]) ∧ At w' (some ⟨g, 0, none⟩) (bv (putB m)) ∧ Below W.heap.size W w') :=
            fun W => (put_yes m hm W (HMay m hm) hy).mono fun e w' ⟨g, c, h1, h2, h3⟩ => ⟨g, c, h1, own_at h2, h3⟩
          by_cases he : putB m = l
          · have hr : readM l = some m := by unfold readM; rw [hp]; simp [hlt, hy, he]
            rw [hr]
            exact read_same A c l w hA h' m hm hv HP he
          · have hr : readM l = none := by unfold readM; rw [hp]; simp [hlt, hy, he]
            rw [hr]
            exact read_other A c l w hA h' m hm hv HP he
/-- what was put is read -/
theorem readM_put {m : Msg} (hm : m.Ok) (h : mayM m = true) : readM (putB m) = some m := by
  have hp := parse_put hm h []
  rw [List.append_nil] at hp
  unfold readM
  rw [hp]
  simp [h]
/-- what is read was put -/
theorem readM_of {l : List UInt8} {m : Msg} (h : readM l = some m) : mayM m = true ∧ putB m = l := by
  unfold readM at h
  cases hp : parse l with
  | none => rw [hp] at h; cases h
  | some r =>
    obtain ⟨m', p⟩ := r
    rw [hp] at h
    simp only at h
    split at h
    · cases h
    · split at h
      · injection h with h
        subst h
        assumption
      · cases h
theorem putB_len {m : Msg} (hm : m.Ok) (h : mayM m = true) : (putB m).length ≤ 256 := by
  have hb := bounds_of h
  have l0 := enc_len (n := m.kind.toNat) (by unfold U64; have := hb.kind; omega)
  have l1 := enc_len (n := m.page.toNat) (by unfold U64; have := hb.page; omega)
  have l2 := enc_len (n := m.op.toNat) (by unfold U64; have := hb.op; omega)
  have l3 := enc_len (n := m.mode.toNat) (by unfold U64; have := hb.mode; omega)
  have l4 := enc_len (n := m.dest.toNat) (by unfold U64; have := hb.dest; omega)
  have l5 := enc_len (n := m.psn.toNat) (by unfold U64; have := hb.psn; omega)
  have l6 : (flg m.dirty).length = 1 := by cases m.dirty <;> rfl
  have l7 := form_len hm hb 7
  have k1 : fieldB m 1 = enc m.page.toNat := rfl
  have k2 : fieldB m 2 = enc m.op.toNat := rfl
  have k3 : fieldB m 3 = enc m.mode.toNat := rfl
  have k4 : fieldB m 4 = enc m.dest.toNat := rfl
  have k5 : fieldB m 5 = enc m.psn.toNat := rfl
  have k6 : fieldB m 6 = flg m.dirty := rfl
  have key : ((fieldsOf m.kind).map (fieldB m)).flatten.length ≤ 180 := by
    rcases kind_cases hb.kind with e | e | e | e | e | e | e | e | e | e | e | e | e
    all_goals
      rw [e]
      simp [fieldsOf, k1, k2, k3, k4, k5, k6]
      omega
  unfold putB
  rw [List.length_append]
  omega
end Go.Proofs.YtemmdlanidepbaaDoor
