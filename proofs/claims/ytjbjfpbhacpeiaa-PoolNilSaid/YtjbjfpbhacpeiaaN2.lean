/- The law PoolNil, walked. -/
import Derived.Test.YtjbjfpbhacpeiaaN1
import Derived.Test.YtjbjfpbhacpeiaaR7
import Derived.Test.YtjbjfpbhacpeiaaL5
namespace Go.Proofs.Ytjbjfpbhacpeiaa
open Go.RowKit
set_option linter.unusedSimpArgs false
set_option linter.unusedVariables false
set_option maxRecDepth 100000

def fN0 : Fr := ⟨15, 2, 4611686018427387904, 2147483647, 0, List.replicate 96 0, true⟩
def fN : Fr := { fN0 with psn := 2147483647 }
def fB0 : Fr := { fN with mode := 0 }
def fB1 : Fr := { fN with mode := 3 }
def fB2 : Fr := { fN with op := 4611686018427387905 }
def fB3 : Fr := { fN with first := 2147483648 }
def fB4 : Fr := { fN with psn := 2147483648 }
def fB5a : Fr := { fN with psn := 0 }
def fB5 : Fr := { fB5a with body := 1 :: List.replicate 95 0 }
theorem i64c (n : Int) (h1 : -9223372036854775808 ≤ n := by decide) (h2 : n ≤ 9223372036854775807 := by decide) : I64 n := ⟨h1, h2⟩
theorem fN0_ok : fN0.Ok := ⟨i64c _, i64c _, i64c _, i64c _, i64c _, rfl⟩
theorem fN_ok : fN.Ok := ⟨i64c _, i64c _, i64c _, i64c _, i64c _, rfl⟩
theorem fB0_ok : fB0.Ok := ⟨i64c _, i64c _, i64c _, i64c _, i64c _, rfl⟩
theorem fB1_ok : fB1.Ok := ⟨i64c _, i64c _, i64c _, i64c _, i64c _, rfl⟩
theorem fB2_ok : fB2.Ok := ⟨i64c _, i64c _, i64c _, i64c _, i64c _, rfl⟩
theorem fB3_ok : fB3.Ok := ⟨i64c _, i64c _, i64c _, i64c _, i64c _, rfl⟩
theorem fB4_ok : fB4.Ok := ⟨i64c _, i64c _, i64c _, i64c _, i64c _, rfl⟩
theorem fB5a_ok : fB5a.Ok := ⟨i64c _, i64c _, i64c _, i64c _, i64c _, rfl⟩
theorem fB5_ok : fB5.Ok := ⟨i64c _, i64c _, i64c _, i64c _, i64c _, rfl⟩
theorem built_fN : Try.prog.built 39 [(0, .int .i64 15), (1, .int .i64 2), (2, .int .i64 4611686018427387904), (3, .int .i64 2147483647), (5, .bool true)] = some (fA fN0) := by kernel_rfl
/-- a row of six frames -/
def sixA (L : List Fr) : List Value := L.flatMap fcells
def L0 : List Fr := List.replicate 6 fr0
theorem z58 (u : World) : (zeroValue 58).run Try.prog u = .ok (.agg (sixA L0).toArray) u := by kernel_rfl
theorem zPool0 : Try.prog.built 70 [] = some zP.toArray := by kernel_rfl
def AllOk (L : List Fr) : Prop := ∀ f ∈ L, f.Ok
theorem six_len {L : List Fr} (h : AllOk L) : ∀ f ∈ L, (fcells f).length = 102 := fun f hf => fcells_len (h f hf)
theorem six_set {L : List Fr} (h : AllOk L) {i j : Nat} {x y : Fr} (hi : L[i]? = some x) (v : Value) (hj : j < 102) (e : (fcells x).set j v = fcells y) : (sixA L).set (i * 102 + j) v = sixA (L.set i y) := by
  have hlt := (List.getElem?_eq_some_iff.1 hi).1
  have hx := fcells_len (h x (List.mem_of_getElem? hi))
  have hl : i * 102 + j < (L.flatMap fcells).length := by rw [fl_len L (six_len h)]; omega
  have e2 := fl_patch L (six_len h) hi [v] (j := j) (by simp; omega) (by rw [patch_one _ _ _ (by rw [hx]; exact hj)]; exact e)
  rw [patch_one _ _ _ hl] at e2
  exact e2
theorem six_put {L : List Fr} (h : AllOk L) {i : Nat} {x y : Fr} (hi : L[i]? = some x) (hy : y.Ok) : patch (sixA L) (i * 102) (fcells y) = sixA (L.set i y) := by
  have hx := fcells_len (h x (List.mem_of_getElem? hi))
  have e2 := fl_patch L (six_len h) hi (fcells y) (j := 0) (by rw [fcells_len hy]; omega) (patch_all _ _ (by rw [hx, fcells_len hy]))
  rw [Nat.add_zero] at e2
  exact e2
theorem allok_set {L : List Fr} (h : AllOk L) (i : Nat) {y : Fr} (hy : y.Ok) : AllOk (L.set i y) := fun f hf => by
  rcases List.mem_or_eq_of_mem_set hf with hf | rfl
  · exact h f hf
  · exact hy
theorem six_get {w : World} {g : Nat} {L : List Fr} (hg : PCells w g (sixA L) 58) (h : AllOk L) {i j : Nat} {x : Fr} (hi : L[i]? = some x) (hj : j < 102) : w.cell? ⟨g, i * 102 + j, none⟩ = (fcells x)[j]? := by
  rw [hg.cell]
  have := fl_get L (six_len h) i j hj
  rw [hi] at this
  exact this
theorem six_range {w : World} {g : Nat} {L : List Fr} (hg : PCells w g (sixA L) 58) (h : AllOk L) {i : Nat} {x : Fr} (hi : L[i]? = some x) : w.rangeAt g (i * 102) (fcells x) := by
  refine hg.range _ _ fun j v hj => ?_
  have hj2 : j < 102 := by have := (List.getElem?_eq_some_iff.1 hj).1; rw [fcells_len (h x (List.mem_of_getElem? hi))] at this; exact this
  have := fl_get L (six_len h) i j hj2
  rw [hi] at this
  exact this.trans hj
def Lj (f : Fr) (j : Nat) : List Fr := List.replicate j f ++ List.replicate (6 - j) fr0
theorem lj_next (f : Fr) : ∀ j, j < 6 → (Lj f j)[j]? = some fr0 ∧ (Lj f j).set j f = Lj f (j + 1) := fun j hj => by
  obtain rfl | rfl | rfl | rfl | rfl | rfl : j = 0 ∨ j = 1 ∨ j = 2 ∨ j = 3 ∨ j = 4 ∨ j = 5 := by omega
  all_goals exact ⟨rfl, rfl⟩
theorem lj_ok {F : Fr} (hF : F.Ok) (j : Nat) : AllOk (Lj F j) := fun f hf => by
  rcases List.mem_append.1 hf with hf | hf
  · rw [(List.mem_replicate.1 hf).2]; exact hF
  · rw [(List.mem_replicate.1 hf).2]; exact fr0_ok
def LB : List Fr := [fB0, fB1, fB2, fB3, fB4, fB5]
theorem lb_ok : AllOk LB := fun f hf => by
  simp only [LB, List.mem_cons, List.not_mem_nil, or_false] at hf
  rcases hf with rfl | rfl | rfl | rfl | rfl | rfl
  · exact fB0_ok
  · exact fB1_ok
  · exact fB2_ok
  · exact fB3_ok
  · exact fB4_ok
  · exact fB5_ok
theorem lb_may : ∀ f ∈ LB, mayF f = false := fun f hf => by
  simp only [LB, List.mem_cons, List.not_mem_nil, or_false] at hf
  rcases hf with rfl | rfl | rfl | rfl | rfl | rfl
  all_goals kernel_rfl
theorem cells_size (b : Nat) : ∀ (vs : List Value) (o : Nat) (w : World), (w.setCells b o vs).heap.size = w.heap.size
  | [], _, _ => rfl
  | v :: vs, o, w => by rw [World.setCells, cells_size b vs (o + 1)]; simp [World.setCell]
/-- the seven stores -/
theorem six_turned {w : World} {g : Nat} (h : PCells w g (sixA (Lj fN 6)) 58) :
    PCells (((((((w.setCell ⟨g, 1, none⟩ (.int .i64 0)).setCell ⟨g, 103, none⟩ (.int .i64 3)).setCell ⟨g, 206, none⟩ (.int .i64 4611686018427387905)).setCell ⟨g, 309, none⟩ (.int .i64 2147483648)).setCell ⟨g, 412, none⟩ (.int .i64 2147483648)).setCell ⟨g, 514, none⟩ (.int .i64 0)).setCell ⟨g, 515, none⟩ (.int .u8 1)) g (sixA LB) 58 := by
  have h1 := h.set 1 (.int .i64 0)
  have e1 : (sixA (Lj fN 6)).set 1 (.int .i64 0) = sixA ((Lj fN 6).set 0 fB0) := six_set (lj_ok fN_ok 6) (i := 0) (j := 1) (x := fN) rfl _ (by omega) rfl
  rw [e1] at h1
  have o1 := allok_set (lj_ok fN_ok 6) 0 fB0_ok
  have h2 := h1.set 103 (.int .i64 3)
  have e2 : (sixA ((Lj fN 6).set 0 fB0)).set 103 (.int .i64 3) = sixA (((Lj fN 6).set 0 fB0).set 1 fB1) := six_set o1 (i := 1) (j := 1) (x := fN) rfl _ (by omega) rfl
  rw [e2] at h2
  have o2 := allok_set o1 1 fB1_ok
  have h3 := h2.set 206 (.int .i64 4611686018427387905)
  have e3 : (sixA (((Lj fN 6).set 0 fB0).set 1 fB1)).set 206 (.int .i64 4611686018427387905) = sixA ((((Lj fN 6).set 0 fB0).set 1 fB1).set 2 fB2) := six_set o2 (i := 2) (j := 2) (x := fN) rfl _ (by omega) rfl
  rw [e3] at h3
  have o3 := allok_set o2 2 fB2_ok
  have h4 := h3.set 309 (.int .i64 2147483648)
  have e4 : (sixA ((((Lj fN 6).set 0 fB0).set 1 fB1).set 2 fB2)).set 309 (.int .i64 2147483648) = sixA (((((Lj fN 6).set 0 fB0).set 1 fB1).set 2 fB2).set 3 fB3) := six_set o3 (i := 3) (j := 3) (x := fN) rfl _ (by omega) rfl
  rw [e4] at h4
  have o4 := allok_set o3 3 fB3_ok
  have h5 := h4.set 412 (.int .i64 2147483648)
  have e5 : (sixA (((((Lj fN 6).set 0 fB0).set 1 fB1).set 2 fB2).set 3 fB3)).set 412 (.int .i64 2147483648) = sixA ((((((Lj fN 6).set 0 fB0).set 1 fB1).set 2 fB2).set 3 fB3).set 4 fB4) := six_set o4 (i := 4) (j := 4) (x := fN) rfl _ (by omega) rfl
  rw [e5] at h5
  have o5 := allok_set o4 4 fB4_ok
  have h6 := h5.set 514 (.int .i64 0)
  have e6 : (sixA ((((((Lj fN 6).set 0 fB0).set 1 fB1).set 2 fB2).set 3 fB3).set 4 fB4)).set 514 (.int .i64 0) = sixA (((((((Lj fN 6).set 0 fB0).set 1 fB1).set 2 fB2).set 3 fB3).set 4 fB4).set 5 fB5a) := six_set o5 (i := 5) (j := 4) (x := fN) rfl _ (by omega) rfl
  rw [e6] at h6
  have o6 := allok_set o5 5 fB5a_ok
  have h7 := h6.set 515 (.int .u8 1)
  have e7 : (sixA (((((((Lj fN 6).set 0 fB0).set 1 fB1).set 2 fB2).set 3 fB3).set 4 fB4).set 5 fB5a)).set 515 (.int .u8 1) = sixA LB := six_set o6 (i := 5) (j := 5) (x := fB5a) rfl _ (by omega) rfl
  rw [e7] at h7
  exact h7
theorem six_ex (w : World) (g : Nat) : Ex (fun k => k = g) w (((((((w.setCell ⟨g, 1, none⟩ (.int .i64 0)).setCell ⟨g, 103, none⟩ (.int .i64 3)).setCell ⟨g, 206, none⟩ (.int .i64 4611686018427387905)).setCell ⟨g, 309, none⟩ (.int .i64 2147483648)).setCell ⟨g, 412, none⟩ (.int .i64 2147483648)).setCell ⟨g, 514, none⟩ (.int .i64 0)).setCell ⟨g, 515, none⟩ (.int .u8 1)) := by
  refine Ex.trans ?_ (setCell_ex (T := fun k => k = g) 515 _ _ rfl)
  refine Ex.trans ?_ (setCell_ex (T := fun k => k = g) 514 _ _ rfl)
  refine Ex.trans ?_ (setCell_ex (T := fun k => k = g) 412 _ _ rfl)
  refine Ex.trans ?_ (setCell_ex (T := fun k => k = g) 309 _ _ rfl)
  refine Ex.trans ?_ (setCell_ex (T := fun k => k = g) 206 _ _ rfl)
  refine Ex.trans ?_ (setCell_ex (T := fun k => k = g) 103 _ _ rfl)
  exact setCell_ex (T := fun k => k = g) 1 _ w rfl
theorem six_size (w : World) (g : Nat) : (((((((w.setCell ⟨g, 1, none⟩ (.int .i64 0)).setCell ⟨g, 103, none⟩ (.int .i64 3)).setCell ⟨g, 206, none⟩ (.int .i64 4611686018427387905)).setCell ⟨g, 309, none⟩ (.int .i64 2147483648)).setCell ⟨g, 412, none⟩ (.int .i64 2147483648)).setCell ⟨g, 514, none⟩ (.int .i64 0)).setCell ⟨g, 515, none⟩ (.int .u8 1)).heap.size = w.heap.size := by
  simp [World.setCell]
theorem wpList_build_want {P : Program} {ops : Array Oper} {rest : List Oper} {o : Oper} {a : Act} {w : World} {Q : Exit → Act → World → Prop} (hw : Region.wanted o (yielded ops a.tmps) = true) (t : TypeId) (L : List (Nat × Operand)) (ho : o.op = .build t L.toArray)
    (cells : Array Value) (hb : P.built t (L.map fun x => (x.1, a.eval x.2)) = some cells) (h : wpList P ops Q rest (a.put o.dst (.agg cells)) w) : wpList P ops Q (o :: rest) a w :=
  BigFrame.wpList_want hw fun K hK => by
    unfold Oper.wp execOp
    have e : (L.toArray.map fun (i, x) => (i, a.eval x)).toList = L.map fun x => (x.1, a.eval x.2) := by simp
    simp only [ho, Sem.run_bind, run_build w t _ cells (by rw [e]; exact hb), Result.andThen_ok, Sem.run_pure]
    exact hK _ _ h
theorem nopool_zero (w : World) : NoPool (w.alloc (.cells zP.toArray 70)) (some ⟨w.heap.size, 0, none⟩) := by
  refine .inr ⟨_, rfl, ?_⟩
  rw [(PCells.new w zP.toArray 70).cell]
  show zP[1680]? = _
  unfold zP
  rw [List.getElem?_append_right (by rw [flat0]; omega), flat0]
  rfl
def nS1 : PS := ⟨some ⟨true, 0, fN⟩ :: List.replicate 15 none, 0⟩
def kP : PS := ⟨[kL true 1 1, none], 0⟩
theorem nset1 : setS (S0 16) fN = (0, nS1) := by kernel_rfl
theorem nset2 : setS nS1 fN = (0, nS1) := by kernel_rfl
theorem ncnt : cntS nS1.s = 1 := by kernel_rfl
set_option maxHeartbeats 16000000 in
theorem nil_walk (w : World) : Calls Try.prog 6 #[] w (fun e w' => e = .returned (.bool true) ∧ Below w.heap.size w w') := by
  have hz := zfr
  obtain ⟨Z6, hZ6⟩ : ∃ Z, Z = (sixA L0).toArray := ⟨_, rfl⟩
  have hz6 : ∀ u, (zeroValue 58).run Try.prog u = .ok (.agg Z6) u := fun u => by rw [hZ6]; exact z58 u
  have HZ6 := Lib.hid hZ6
  clear hZ6
  go_enter Try.func6, Try.ntmps6
  go_upto_region 2 with (first
    | (refine wpList_build_list rfl 39 [(0, .const (.int .i64 15)), (1, .const (.int .i64 2)), (2, .const (.int .i64 4611686018427387904)), (3, .const (.int .i64 2147483647)), (5, .const (.bool true))] rfl (fA fN0) ?hb ?hh; case hb => exact built_fN)
    | (refine wpList_store_row rfl 39 (.tmp 1) (.tmp 16) rfl w.heap.size (fA fN0) rfl rfl 39 _ (heap_alloc_new w (.cells (fA fr0) 39)) (infoFrA fN0_ok) (fA_size fr0_ok fN0_ok) (fv_all _) ?_; rw [World.setRow_alloc_new]))
  have hP := PCells.new w (fA fN0) 39
  have hb : Below w.heap.size w (w.alloc (.cells (fA fN0) 39)) := (Below.refl _ _).alloc (Nat.le_refl _) _
  have hsz : (w.alloc (.cells (fA fN0) 39)).heap.size = w.heap.size + 1 := World.size_alloc _ _
  have c4 : (w.alloc (.cells (fA fN0) 39)).cell? ⟨w.heap.size, 4, none⟩ = some (.int .i64 0) := by rw [hP.cell]; rfl
  have f4 := hP.frozen 4
  generalize w.alloc (.cells (fA fN0) 39) = w1 at *
  go_upto_region 3 with fail
  have hP2 : PCells (w1.setCell ⟨w.heap.size, 4, none⟩ (.int .i64 2147483647)) w.heap.size (fcells fN) 39 := hP.set 4 (.int .i64 2147483647)
  have hb2 : Below w.heap.size w (w1.setCell ⟨w.heap.size, 4, none⟩ (.int .i64 2147483647)) := hb.setCell (p := ⟨w.heap.size, 4, none⟩) (Nat.le_refl _) _
  have hsz2 : (w1.setCell ⟨w.heap.size, 4, none⟩ (.int .i64 2147483647)).heap.size = w.heap.size + 1 := by rw [← hsz]; simp [World.setCell]
  clear hP hb hsz c4 f4
  generalize w1.setCell ⟨w.heap.size, 4, none⟩ (.int .i64 2147483647) = w2 at *
  go_upto_region 4 with fail
  have hP3 := PCells.kept (T := fun _ => False) hP2 (Ex.alloc _ w2 (.cells Z6 58)) id
  have hL3 : PCells (w2.alloc (.cells Z6 58)) w2.heap.size (sixA L0) 58 := by
    have := PCells.new w2 Z6 58
    have e : Z6.toList = sixA L0 := by rw [HZ6.out]
    rw [e] at this
    exact this
  have hb3 : Below w.heap.size w (w2.alloc (.cells Z6 58)) := hb2.alloc hb2.size _
  rw [hsz2] at hL3
  have hsz3 : (w2.alloc (.cells Z6 58)).heap.size = w.heap.size + 2 := by rw [World.size_alloc, hsz2]
  clear hP2 hb2 hsz2 HZ6 hz6
  generalize w2.alloc (.cells Z6 58) = w3 at *
  rw [show L0 = Lj fN 0 from rfl] at hL3
  have HO := Lib.hid fN_ok
  generalize hFe : fN = F at *
  have HFe := Lib.hid hFe
  clear hFe
  go_wp2_with fail
  go_loopg [3] 6 (fun kk i wr => ∃ j : Nat, i = .int .i64 (j : Int) ∧ Hid (j + kk = 6 ∧ PCells wr w.heap.size (fcells F) 39 ∧ PCells wr (w.heap.size + 1) (sixA (Lj F j)) 58 ∧ Below w.heap.size w wr ∧ wr.heap.size = w.heap.size + 2))
  case atStart => exact ⟨0, rfl, Lib.hid ⟨rfl, hP3, hL3, hb3, hsz3⟩⟩
  case round =>
    obtain ⟨j, rfl, hj⟩ := hrel
    clear hP3 hL3 hb3 hsz3
    by_cases hlt : j < 6
    · have hltI : (j : Int) < 6 := by omega
      obtain ⟨e0, e1⟩ := lj_next F j hlt
      have HF := Lib.hid hj.out.2.1
      have HT : Hid (wr.there (w.heap.size + 1) (j * 102) (fA F).size) := Lib.hid (hj.out.2.2.1.there _ _ (by rw [sixA, fl_len _ (six_len (lj_ok HO.out j))]; simp only [fA, List.size_toArray, fcells_len HO.out, Lj, List.length_append, List.length_replicate]; omega))
      have exS := setCells_ex (T := fun k => k = w.heap.size + 1) (fA F).toList (j * 102) wr rfl
      have HN : Hid (PCells (wr.setCells (w.heap.size + 1) (j * 102) (fA F).toList) w.heap.size (fcells F) 39 ∧ PCells (wr.setCells (w.heap.size + 1) (j * 102) (fA F).toList) (w.heap.size + 1) (sixA (Lj F (j + 1))) 58 ∧ Below w.heap.size w (wr.setCells (w.heap.size + 1) (j * 102) (fA F).toList) ∧ (wr.setCells (w.heap.size + 1) (j * 102) (fA F).toList).heap.size = w.heap.size + 2) := Lib.hid (by
        refine ⟨hj.out.2.1.kept exS (by omega), ?_, hj.out.2.2.2.1.trans (exS.toBelow (by have := hj.out.2.2.2.2; omega) (fun k hk => by omega)), ?_⟩
        · have h1 := hj.out.2.2.1.sets (fcells F) (o := j * 102) (by rw [sixA, fl_len _ (six_len (lj_ok HO.out j))]; simp only [fcells_len HO.out, Lj, List.length_append, List.length_replicate]; omega)
          rw [six_put (lj_ok HO.out j) e0 HO.out, e1] at h1
          exact h1
        · rw [cells_size]; exact hj.out.2.2.2.2)
      clear exS e0 e1
      go_wp2_with (first | (refine wpList_load_row rfl 39 (.tmp 1) rfl w.heap.size rfl 39 (fA F) (0, 0) _ HF.out fr_under rfl (infoFrA HO.out) ?_) | (refine wpList_store_mid rfl 39 (.tmp 25) (.tmp 24) rfl (w.heap.size + 1) (j * 102) (fA F) rfl rfl HT.out (infoFrA HO.out) (fv_all _) ?_))
      go_roundg (gk - 1)
      case measure => have := hj.out; omega
      case rel => exact ⟨j + 1, (by go_num), Lib.hid ⟨(by have := hj.out; omega), HN.out⟩⟩
    · obtain rfl : j = 6 := by have := hj.out.1; omega
      obtain rfl := HFe.out
      have h6 := hj.out.2.2.1
      have HF := Lib.hid hj.out.2.1
      have hgt : ∀ (i k : Nat), i < 6 → k < 102 → wr.cell? ⟨w.heap.size + 1, i * 102 + k, none⟩ = (fcells fN)[k]? := fun i k hi hk => six_get h6 (lj_ok fN_ok 6) (x := fN) (by
        obtain rfl | rfl | rfl | rfl | rfl | rfl : i = 0 ∨ i = 1 ∨ i = 2 ∨ i = 3 ∨ i = 4 ∨ i = 5 := by omega
        all_goals rfl) hk
      have c1 : wr.cell? ⟨w.heap.size + 1, 1, none⟩ = some (.int .i64 2) := hgt 0 1 (by omega) (by omega)
      have c103 : wr.cell? ⟨w.heap.size + 1, 103, none⟩ = some (.int .i64 2) := hgt 1 1 (by omega) (by omega)
      have c206 : wr.cell? ⟨w.heap.size + 1, 206, none⟩ = some (.int .i64 4611686018427387904) := hgt 2 2 (by omega) (by omega)
      have c309 : wr.cell? ⟨w.heap.size + 1, 309, none⟩ = some (.int .i64 2147483647) := hgt 3 3 (by omega) (by omega)
      have c412 : wr.cell? ⟨w.heap.size + 1, 412, none⟩ = some (.int .i64 2147483647) := hgt 4 4 (by omega) (by omega)
      have c514 : wr.cell? ⟨w.heap.size + 1, 514, none⟩ = some (.int .i64 2147483647) := hgt 5 4 (by omega) (by omega)
      have c515 : wr.cell? ⟨w.heap.size + 1, 515, none⟩ = some (.int .u8 0) := hgt 5 5 (by omega) (by omega)
      have f1 := h6.frozen 1
      have f103 := h6.frozen 103
      have f206 := h6.frozen 206
      have f309 := h6.frozen 309
      have f412 := h6.frozen 412
      have f514 := h6.frozen 514
      have f515 := h6.frozen 515
      have HLB := Lib.hid (six_turned h6)
      have HBr := Lib.hid hj.out.2.2.2.1
      have hszr := hj.out.2.2.2.2
      have wA : IntKind.i64.wrap 4611686018427387905 = 4611686018427387905 := IntWalk.i64_in _ (by omega)
      have wB : IntKind.i64.wrap 2147483648 = 2147483648 := IntWalk.i64_in _ (by omega)
      clear h6 hj hgt
      go_upto_region 13 with fail
      go_upto_region 13 with fail
      have exS := six_ex wr (w.heap.size + 1)
      have hsz5 := (six_size wr (w.heap.size + 1)).trans hszr
      have HF5 := Lib.hid (HF.out.kept exS (by omega))
      have HB5 := Lib.hid (HBr.out.trans (exS.toBelow (by omega) (fun k hk => by omega)))
      have HS1 := Lib.hid nset1
      have HS2 := Lib.hid nset2
      have HO := Lib.hid fN_ok
      have HCn := Lib.hid ncnt
      clear exS HF HBr hszr c1 c103 c206 c309 c412 c514 c515 f1 f103 f206 f309 f412 f514 f515 wA wB
      generalize (((((((wr.setCell ⟨w.heap.size + 1, 1, none⟩ (.int .i64 0)).setCell ⟨w.heap.size + 1, 103, none⟩ (.int .i64 3)).setCell ⟨w.heap.size + 1, 206, none⟩ (.int .i64 4611686018427387905)).setCell ⟨w.heap.size + 1, 309, none⟩ (.int .i64 2147483648)).setCell ⟨w.heap.size + 1, 412, none⟩ (.int .i64 2147483648)).setCell ⟨w.heap.size + 1, 514, none⟩ (.int .i64 0)).setCell ⟨w.heap.size + 1, 515, none⟩ (.int .u8 1)) = w5 at *
      generalize nS1 = N1 at *
      generalize fN = F at *
      have HN := Lib.hid (new_yes 16 (by decide) (by decide) w5)
      rw [hsz5] at HN
      have HZ5 := Lib.hid hsz5
      clear hsz5
      go_wp2_with fail
      refine HN.out.mono ?_
      rintro e w6 ⟨rfl, hp, hb⟩
      have HR6 : Hid (Row w (w.heap.size + 2 + 1) (w.heap.size + 2) (S0 16) 0 w6) := Lib.hid ⟨hp, S0_ok (by decide) (by decide), HB5.out.trans (hb.mono (by omega)), by omega, by omega⟩
      have HF6 := Lib.hid (HF5.out.kept (T := fun _ => False) (Ex.below (by rw [HZ5.out]; exact hb)) id)
      have HL6 := Lib.hid (HLB.out.kept (T := fun _ => False) (Ex.below (by rw [HZ5.out]; exact hb)) id)
      have hs6 : w.heap.size + 2 + 1 < w6.heap.size := hp.cells.lt
      clear hp hb HN HB5 HF5 HLB HZ5
      go_wp2_with fail
      go_loopg [6] 6 (fun kk i wr => ∃ j : Nat, i = .int .i64 (j : Int) ∧ Hid (j + kk = 6 ∧ Row w (w.heap.size + 2 + 1) (w.heap.size + 2) (S0 16) 0 wr ∧ PCells wr w.heap.size (fcells F) 39 ∧ PCells wr (w.heap.size + 1) (sixA LB) 58 ∧ w.heap.size + 2 + 1 < wr.heap.size))
      case atStart => exact ⟨0, rfl, Lib.hid ⟨rfl, HR6.out, HF6.out, HL6.out, hs6⟩⟩
      case round =>
        obtain ⟨j, rfl, hj⟩ := hrel
        clear HR6 HF6 HL6
        by_cases hlt : j < 6
        · have hltI : (j : Int) < 6 := by omega
          have hlj : j < LB.length := hlt
          have hgj := List.getElem?_eq_getElem hlj
          have hmem := List.getElem_mem hlj
          generalize LB[j] = f at *
          have hfo := lb_ok f hmem
          have HFo := Lib.hid hfo
          have HRg := Lib.hid (six_range hj.out.2.2.2.1 lb_ok hgj)
          have HSt := Lib.hid (hj.out.2.1.set (Int.le_refl 0) f hfo (setS_bad (lb_may f hmem)))
          clear hgj hmem hfo hlj
          go_wp2_with (refine wpList_load_mid rfl 39 (.tmp 67) rfl (w.heap.size + 1) (j * 102) rfl (fcells f) _ HRg.out fr_under rfl (infoFrL HFo.out) ?_)
          refine HSt.out.mono ?_
          rintro e w7 ⟨rfl, hr, hx⟩
          have HNx : Hid (Row w (w.heap.size + 2 + 1) (w.heap.size + 2) (S0 16) 0 w7 ∧ PCells w7 w.heap.size (fcells F) 39 ∧ PCells w7 (w.heap.size + 1) (sixA LB) 58 ∧ w.heap.size + 2 + 1 < w7.heap.size) := Lib.hid
            ⟨hr, hj.out.2.2.1.kept hx (fun e => by rcases e with e | e <;> omega), hj.out.2.2.2.1.kept hx (fun e => by rcases e with e | e <;> omega), Nat.lt_of_lt_of_le hj.out.2.2.2.2 hx.size⟩
          clear hr hx HSt HRg
          go_wp2_with fail
          refine (num_any _ _).mono ?_
          rintro e w' ⟨rfl, rfl⟩
          go_wp2_with fail
          go_roundg (gk - 1)
          case measure => have := hj.out; omega
          case rel => exact ⟨j + 1, (by go_num), Lib.hid ⟨(by have := hj.out; omega), HNx.out⟩⟩
        · have HR := Lib.hid hj.out.2.1
          have HF := Lib.hid hj.out.2.2.1
          have hs7 := hj.out.2.2.2.2
          have hltI : ¬ (j : Int) < 6 := by have := hj.out; omega
          clear hj
          go_upto_region 19 with fail
          have HD : Hid (Row w (w.heap.size + 2 + 1) (w.heap.size + 2) (S0 16) 0 wr.drew) := Lib.hid (HR.out.drewN 1)
          have U : Up (PB (w.heap.size + 2 + 1) (w.heap.size + 2)) wr.drew (fun u => u.heap[w.heap.size]? = some (.cells (fA F) 39 (0, 0))) := fun u hu => (hu.block w.heap.size HF.out.lt (fun e => by rcases e with e | e <;> omega)).trans HF.out
          refine wp_region_seq (PB (w.heap.size + 2 + 1) (w.heap.size + 2)) [] [(0, true), (1, true), (3, true), (4, true), (2, false), (5, false), (6, true), (7, true)] (by kernel_rfl) (by kernel_rfl) (fun _ _ d _ _ h => by cases d <;> exact h) rfl (by kernel_rfl) ?_
          refine seq_at (some 72) (v := ?_) rfl (by kernel_rfl) (by kernel_rfl) ?_ ?_
          rotate_left
          · intro w' hw'
            go_simp
            try with_reducible rfl
          simp only [Act.put, List.setIfInBounds_toArray, List.set_cons_zero, List.set_cons_succ]
          refine seq_load_fr (some 73) rfl (by kernel_rfl) (by kernel_rfl) (.tmp 1) rfl w.heap.size F rfl HO.out U ?_
          simp only [Act.put, List.setIfInBounds_toArray, List.set_cons_zero, List.set_cons_succ]
          refine seq_at (some 75) (v := ?_) rfl (by kernel_rfl) (by kernel_rfl) ?_ ?_
          rotate_left
          · intro w' hw'
            go_simp
            try with_reducible rfl
          simp only [Act.put, List.setIfInBounds_toArray, List.set_cons_zero, List.set_cons_succ]
          refine seq_load_fr (some 76) rfl (by kernel_rfl) (by kernel_rfl) (.tmp 1) rfl w.heap.size F rfl HO.out U ?_
          simp only [Act.put, List.setIfInBounds_toArray, List.set_cons_zero, List.set_cons_succ]
          refine seq_eff rfl (by kernel_rfl) (fun K hK => ?_)
          go_simp
          refine (HD.out.set (Int.le_refl 0) F HO.out HS1.out).mono ?_
          rintro e w8 ⟨rfl, hr, hx⟩
          refine hK.out _ _ (.inl hx) ?_
          try simp only [Act.put, List.setIfInBounds_toArray, List.set_cons_zero, List.set_cons_succ]
          clear hK
          have H8 := Lib.hid hr
          clear hr hx U HD HR HF
          refine seq_eff rfl (by kernel_rfl) (fun K hK => ?_)
          go_simp
          refine (H8.out.set (Int.le_refl 0) F HO.out HS2.out).mono ?_
          rintro e w9 ⟨rfl, hr, hx⟩
          refine hK.out _ _ (.inl hx) ?_
          try simp only [Act.put, List.setIfInBounds_toArray, List.set_cons_zero, List.set_cons_succ]
          clear hK
          have H9 := Lib.hid hr
          have hs9 : w.heap.size + 2 + 1 < w9.heap.size := hr.pool.cells.lt
          clear hr hx H8
          refine seq_at (some 7) (v := ?_) rfl (by kernel_rfl) (by kernel_rfl) ?_ ?_
          rotate_left
          · intro w' hw'
            go_simp
            try with_reducible rfl
          simp only [Act.put, List.setIfInBounds_toArray, List.set_cons_zero, List.set_cons_succ]
          refine seq_at (some 8) (v := ?_) rfl (by kernel_rfl) (by kernel_rfl) ?_ ?_
          rotate_left
          · intro w' hw'
            go_simp
            try with_reducible rfl
          simp only [Act.put, List.setIfInBounds_toArray, List.set_cons_zero, List.set_cons_succ]
          refine seq_nil ?_
          go_wp2_with fail
          refine (new_no 17 (by decide) w9).mono ?_
          rintro e w' ⟨rfl, rfl⟩
          have HNa := Lib.hid (new_yes 2 (by decide) (by decide) w9)
          go_wp2_with fail
          refine HNa.out.mono ?_
          rintro e w10 ⟨rfl, hp, hb⟩
          have HA10 : Hid (Row w (w9.heap.size + 1) w9.heap.size k0 0 w10) := Lib.hid ⟨hp, S0_ok (by decide) (by decide), H9.out.below.trans (hb.mono H9.out.below.size), by omega, by omega⟩
          have HP10 := Lib.hid (H9.out.pool.later hb)
          have HPo := Lib.hid H9.out.ok
          have hs10 : w9.heap.size + 1 < w10.heap.size := hp.cells.lt
          clear hp hb HNa H9
          generalize w9.heap.size = ma at *
          have HNb := Lib.hid (new_yes 2 (by decide) (by decide) w10)
          go_wp2_with fail
          refine HNb.out.mono ?_
          rintro e w11 ⟨rfl, hp, hb⟩
          have HB11 : Hid (PoolAt w11 (w10.heap.size + 1) w10.heap.size k0) := Lib.hid hp
          have HA11 : Hid (Row w (ma + 1) ma k0 0 w11) := Lib.hid ⟨HA10.out.pool.later hb, HA10.out.ok, HA10.out.below.trans (hb.mono HA10.out.below.size), HA10.out.lo⟩
          have HP11 := Lib.hid (HP10.out.later hb)
          have hs11 : w10.heap.size + 1 < w11.heap.size := hp.cells.lt
          clear hp hb HNb HA10 HP10
          generalize w10.heap.size = mb at *
          go_wp2_with fail
          refine (frame_any _ 1 (i64_s 1 (by decide) (by decide))).mono ?_
          rintro e w' ⟨rfl, rfl⟩
          have HA12 := Lib.hid (HA11.out.alloc (.cells (fA (frF 1)) 39))
          have HB12 := Lib.hid (HB11.out.alloc (.cells (fA (frF 1)) 39))
          have HP12 := Lib.hid (HP11.out.alloc (.cells (fA (frF 1)) 39))
          clear HA11 HB11 HP11
          generalize w11.alloc (.cells (fA (frF 1)) 39) = w12 at *
          go_wp2_with fail
          refine (HA12.out.set (r := 0) (S' := k1) (by decide) (frF 1) (frF_ok (i64_s 1 (by decide) (by decide))) (by kernel_rfl)).mono ?_
          rintro e w13 ⟨rfl, hr, hx⟩
          have HA13 := Lib.hid hr
          have HB13 := Lib.hid (HB12.out.kept hx (fun e => by rcases e with e | e <;> omega) (fun e => by rcases e with e | e <;> omega))
          have HP13 := Lib.hid (HP12.out.kept hx (fun e => by rcases e with e | e <;> omega) (fun e => by rcases e with e | e <;> omega))
          clear hr hx HA12 HB12 HP12
          go_wp2_with fail
          refine (HA13.out.pin (r := 0) (S' := kP) (by decide) 1 (i64_s 1 (by decide) (by decide)) (by kernel_rfl)).mono ?_
          rintro e w14 ⟨rfl, hr, hx⟩
          have HA14 := Lib.hid hr
          have HB14 := Lib.hid (HB13.out.kept hx (fun e => by rcases e with e | e <;> omega) (fun e => by rcases e with e | e <;> omega))
          have HP14 := Lib.hid (HP13.out.kept hx (fun e => by rcases e with e | e <;> omega) (fun e => by rcases e with e | e <;> omega))
          clear hr hx HA13 HB13 HP13
          go_wp2_with fail
          refine (HA14.out.drop (f := frF 1) (r := 0) (S' := k0) 1 (i64_s 1 (by decide) (by decide)) (by kernel_rfl)).mono ?_
          rintro e w15 ⟨rfl, hr, hx⟩
          have HA15 := Lib.hid hr
          have HB15 := Lib.hid (HB14.out.kept hx (fun e => by rcases e with e | e <;> omega) (fun e => by rcases e with e | e <;> omega))
          have HP15 := Lib.hid (HP14.out.kept hx (fun e => by rcases e with e | e <;> omega) (fun e => by rcases e with e | e <;> omega))
          clear hr hx HA14 HB14 HP14
          have HSm := Lib.hid (same_any w15 (ma + 1) ma (mb + 1) mb HA15.out.pool HA15.out.ok HB15.out (S0_ok (n := 2) (by decide) (by decide)))
          rw [show psB k0 k0 = true from psB_iff.2 rfl] at HSm
          go_wp2_with fail
          refine HSm.out.mono ?_
          rintro e w' ⟨rfl, nd, rfl⟩
          have HA16 := Lib.hid (HA15.out.drewN nd)
          have HP16 := Lib.hid (HP15.out.later (below_drewN nd))
          clear HSm HA15 HB15 HP15
          generalize w15.drewN nd = w16 at *
          go_wp2_with fail
          refine (frame_any _ 1 (i64_s 1 (by decide) (by decide))).mono ?_
          rintro e w' ⟨rfl, rfl⟩
          have HA17 := Lib.hid (HA16.out.alloc (.cells (fA (frF 1)) 39))
          have HP17 := Lib.hid (HP16.out.alloc (.cells (fA (frF 1)) 39))
          clear HA16 HP16
          generalize w16.alloc (.cells (fA (frF 1)) 39) = w17 at *
          go_wp2_with fail
          refine (HA17.out.set (r := 0) (S' := k1) (by decide) (frF 1) (frF_ok (i64_s 1 (by decide) (by decide))) (by kernel_rfl)).mono ?_
          rintro e w18 ⟨rfl, hr, hx⟩
          have HA18 := Lib.hid hr
          have HP18 := Lib.hid (HP17.out.kept hx (fun e => by rcases e with e | e <;> omega) (fun e => by rcases e with e | e <;> omega))
          clear hr hx HA17 HP17
          go_wp2_with fail
          refine (frame_any _ 2 (i64_s 2 (by decide) (by decide))).mono ?_
          rintro e w' ⟨rfl, rfl⟩
          have HA19 := Lib.hid (HA18.out.alloc (.cells (fA (frF 2)) 39))
          have HP19 := Lib.hid (HP18.out.alloc (.cells (fA (frF 2)) 39))
          clear HA18 HP18
          generalize w18.alloc (.cells (fA (frF 2)) 39) = w19 at *
          go_wp2_with fail
          refine (HA19.out.set (r := 0) (S' := k2) (by decide) (frF 2) (frF_ok (i64_s 2 (by decide) (by decide))) (by kernel_rfl)).mono ?_
          rintro e w20 ⟨rfl, hr, hx⟩
          have HA20 := Lib.hid hr
          have HP20 := Lib.hid (HP19.out.kept hx (fun e => by rcases e with e | e <;> omega) (fun e => by rcases e with e | e <;> omega))
          clear hr hx HA19 HP19
          go_wp2_with fail
          refine (HA20.out.victim (r := 1) (t := true) (S' := k3) (by kernel_rfl)).mono ?_
          rintro e w21 ⟨rfl, hr, hx⟩
          have HA21 := Lib.hid hr
          have HP21 := Lib.hid (HP20.out.kept hx (fun e => by rcases e with e | e <;> omega) (fun e => by rcases e with e | e <;> omega))
          clear hr hx HA20 HP20
          have HCp := Lib.hid (copy_any w21 (ma + 1) ma HA21.out.pool HA21.out.ok)
          have hs21 : ma + 1 < w21.heap.size := HA21.out.pool.cells.lt
          have hs21p : w.heap.size + 2 + 1 < w21.heap.size := HP21.out.cells.lt
          go_wp2_with fail
          refine HCp.out.mono ?_
          rintro e w22 ⟨rfl, hp, hb⟩
          have HC22 := Lib.hid hp
          have HP22 := Lib.hid (HP21.out.later hb)
          have HA22 : Hid (Row w (ma + 1) ma k3 1 w22) := Lib.hid ⟨HA21.out.pool.later hb, HA21.out.ok, HA21.out.below.trans (hb.mono HA21.out.below.size), HA21.out.lo⟩
          have hws : w.heap.size ≤ w21.heap.size := HA21.out.below.size
          clear hp hb HCp HA21 HP21
          generalize w21.heap.size = c at *
          have HVc := Lib.hid (victim_any w22 c (c + 1) HC22.out HA22.out.ok)
          rw [show victimS k3 = ((2, true), k4) from by kernel_rfl] at HVc
          have HOk4 : Hid (k4.Ok 1) := Lib.hid (by have := (victimS_ok HA22.out.ok).1; rw [show victimS k3 = ((2, true), k4) from by kernel_rfl] at this; exact this)
          go_wp2_with fail
          refine HVc.out.mono ?_
          rintro e w23 ⟨rfl, hp, hx⟩
          have HC23 := Lib.hid hp
          have HP23 := Lib.hid (HP22.out.kept hx (fun e => by rcases e with e | e <;> omega) (fun e => by rcases e with e | e <;> omega))
          have HA23 := Lib.hid (HA22.out.pool.kept hx (fun e => by rcases e with e | e <;> omega) (fun e => by rcases e with e | e <;> omega))
          have HAo := Lib.hid HA22.out.ok
          have HB23 := Lib.hid (pb_below HA22.out.below (by omega) (by omega) hx)
          clear hp hx HVc HC22 HP22 HA22
          have HSm := Lib.hid (same_any w23 (ma + 1) ma c (c + 1) HA23.out HAo.out HC23.out HOk4.out)
          rw [show psB k3 k4 = false from by kernel_rfl] at HSm
          go_wp2_with fail
          refine HSm.out.mono ?_
          rintro e w' ⟨rfl, nd2, rfl⟩
          have HP24 := Lib.hid (HP23.out.later (below_drewN nd2))
          have HB24 := Lib.hid (HB23.out.trans ((below_drewN nd2).mono HB23.out.size))
          clear HSm HC23 HP23 HA23 HAo HB23 HOk4
          generalize w23.drewN nd2 = w24 at *
          have HLn := Lib.hid (len_any w24 _ _ HP24.out HPo.out)
          rw [HCn.out] at HLn
          obtain ⟨Z, hZ⟩ : ∃ Z, Z = zP.toArray := ⟨_, rfl⟩
          have HZb : Hid (Try.prog.built 70 [] = some Z) := Lib.hid (by rw [hZ]; exact zPool0)
          have HZn : Hid (∀ u : World, NoPool (u.alloc (.cells Z 70)) (some ⟨u.heap.size, 0, none⟩)) := Lib.hid (fun u => by rw [hZ]; exact nopool_zero u)
          clear hZ
          go_wp2_with fail
          refine (num_any _ _).mono ?_
          rintro e w' ⟨rfl, rfl⟩
          go_wp2_with fail
          refine (num_any _ _).mono ?_
          rintro e w' ⟨rfl, rfl⟩
          go_wp2_with fail
          refine (num_any _ _).mono ?_
          rintro e w' ⟨rfl, rfl⟩
          go_wp2_with fail
          refine HLn.out.mono ?_
          rintro e w' ⟨rfl, rfl⟩
          go_wp2_with fail
          refine (num_any _ _).mono ?_
          rintro e w' ⟨rfl, rfl⟩
          go_wp2_with fail
          refine (nothing_any w24 none (.inl rfl)).mono ?_
          rintro e w25 ⟨rfl, hb⟩
          have HP25 := Lib.hid (HP24.out.later hb)
          have HB25 := Lib.hid (HB24.out.trans (hb.mono HB24.out.size))
          clear hb HP24 HB24 HLn
          have HNz := Lib.hid (nothing_any _ _ (HZn.out w25))
          go_wp2_with (refine wpList_build_want (by kernel_rfl) 70 [] rfl Z HZb.out ?_)
          refine HNz.out.mono ?_
          rintro e w26 ⟨rfl, hb⟩
          have hb26 : Below w25.heap.size w25 w26 := ((Below.refl _ w25).alloc (Nat.le_refl _) (.cells Z 70)).trans (hb.mono (by simp))
          have HP26 := Lib.hid (HP25.out.later hb26)
          have HB26 := Lib.hid (HB25.out.trans (hb26.mono HB25.out.size))
          clear hb hb26 HP25 HB25 HNz
          go_wp2_with fail
          refine (same_not w26 _ none true false (there_yes w26 _ _ HP26.out HPo.out) (there_no w26 none (.inl rfl)) rfl).mono ?_
          rintro e w' ⟨rfl, rfl⟩
          go_wp2_with fail
          refine (known_any w26).mono ?_
          rintro e w27 ⟨rfl, hb⟩
          have HB27 := Lib.hid (HB26.out.trans (hb.mono HB26.out.size))
          clear hb
          go_wp2_with fail
          go_ret
          exact ⟨rfl, HB27.out⟩
end Go.Proofs.Ytjbjfpbhacpeiaa
