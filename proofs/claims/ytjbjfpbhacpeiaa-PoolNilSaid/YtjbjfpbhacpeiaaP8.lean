/- Contract of the pool's Set, where no place has the page. -/
import Derived.Test.YtjbjfpbhacpeiaaP7
namespace Go.Proofs.Ytjbjfpbhacpeiaa
open Go.RowKit
set_option linter.unusedSimpArgs false
set_option linter.unusedVariables false
set_option maxRecDepth 100000

section
variable {P : Program} {ops : Array Oper} {Q : Exit → Act → World → Prop} {T : Nat → Prop} {Bk : List Nat}
/-- a whole frame is loaded, now or later -/
theorem seq_load_fr {i : Nat} {o : Oper} {a : Act} {w : World} {rest : List (Nat × Bool)} (d : Option Nat) (ho : ops[i]? = some o) (hd : o.dst = d) (hw : Region.wanted o (yielded ops a.tmps) = true) (x : Operand) (hop : o.op = .load 39 x)
    (g : Nat) (f : Fr) (hx : a.eval x = .pointer (some ⟨g, 0, none⟩)) (hf : f.Ok) (hg : Up T w (fun u => u.heap[g]? = some (.cells (fA f) 39 (0, 0))))
    (h : wpSeq Try.prog ops Q T Bk rest (a.put d (.agg (fA f))) w) : wpSeq Try.prog ops Q T Bk ((i, true) :: rest) a w :=
  seq_at d ho hd hw (fun u hu => by
    have := run_loadVar_row (P := Try.prog) u g 39 39 (fA f) (0, 0) _ (hg u hu) Try.underlying39 rfl (infoFrA hf)
    unfold execOp
    simp only [hop, hx, Instr.loadAt, Instr.sureAddr, Sem.run_bind, Sem.run_pure, Result.andThen_ok, this]) h
theorem seq_build {i : Nat} {o : Oper} {a : Act} {w : World} {rest : List (Nat × Bool)} (d : Option Nat) (ho : ops[i]? = some o) (hd : o.dst = d) (hw : Region.wanted o (yielded ops a.tmps) = true) (t : TypeId) (L : List (Nat × Operand)) (hop : o.op = .build t L.toArray)
    (cells : Array Value) (hb : P.built t (L.map fun x => (x.1, a.eval x.2)) = some cells)
    (h : wpSeq P ops Q T Bk rest (a.put d (.agg cells)) w) : wpSeq P ops Q T Bk ((i, true) :: rest) a w :=
  seq_at d ho hd hw (fun u hu => by
    unfold execOp
    have e : (L.toArray.map fun (i, x) => (i, a.eval x)).toList = L.map fun x => (x.1, a.eval x.2) := by simp
    simp only [hop, Sem.run_bind, run_build u t _ cells (by rw [e]; exact hb), Result.andThen_ok, Sem.run_pure]) h
end
theorem wp_mapUpdate_in {P : Program} {o : Oper} {a : Act} {w : World} {K : Act → World → Prop} {Q : Exit → Act → World → Prop} (m x v : Operand) (t : TypeId) (hop : o.op = Op.mapUpdate t m x v)
    (k e : TypeId) (KK : Maps.Keyed P k) (ht : P.underlying t = some (.map k e)) (R : Value → Option (DataW Unit × List MemPlace)) (b n : Nat) (D : DataW Unit)
    (hm : a.eval m = .map (some b)) (hown : w.ownsMap P k R b n D) (hn : n < maxLen) (key val : Value) (kl : Lit) (hx : a.eval x = key) (hv : a.eval v = val) (hkey : Go.keyOf P k key = some kl)
    (d : DataW Unit) (ps : List MemPlace) (hval : R val = some (d, ps))
    (hK : ∀ w', w'.ownsMap P k R b (n + 1) (D.put kl d) → w.mapTurned w' b → K (a.put o.dst undef) w') : o.wp P a w K Q := by
  obtain ⟨w', hrun, r1, r2⟩ := hown.store KK ht hn hkey hval
  unfold Oper.wp
  simp [execOp, hop, hm, hx, hv, hrun, Result.andThen]
  exact hK w' r1 r2
theorem wf64 {n : Int} (h : I64 n) : (Lit.int .i64 n).wf = true := by unfold I64 at h; simp only [Lit.wf, Bool.and_eq_true, decide_eq_true_eq]; exact h
theorem pA_size {l : Live} (h : l.f.Ok) : (pA l).size = 105 := by
  rw [pA, List.size_toArray, pcells_len (fun l0 e0 => by injection e0 with e0; subst e0; exact h.body)]
theorem pA_info {l : Live} (h : l.f.Ok) : (Try.prog.info? 66).map (·.size) = some (pA l).size := infoPl.trans (by rw [pA_size h])
theorem pA_all (l : Live) : (pA l).all (·.oneCell') = true := all_oneCell_toArray (pcells_one (some l))
/-- a free place gets a frame: the cells and the map -/
theorem PoolAt.taken {w : World} {b m : Nat} {K : Int} {S : PS} (h : PoolAt w b m S) (hS : S.Ok K) (hK : 0 ≤ K) {f : Fr} (hf : f.Ok) (hm : mayF f = true) {i : Nat} (hi : S.s[i]? = some none) (hp : posF f.page S.s = none) :
    w.there b (i * 105) (pA ⟨true, 0, f⟩).size ∧ PCells (w.setCells b (i * 105) (pA ⟨true, 0, f⟩).toList) b (plist (S.put i (some ⟨true, 0, f⟩)) m) 70 ∧
      ∃ D, OwnsI w m (Maps.size D) D ∧ Maps.size D < maxLen ∧ ∀ w', OwnsI w' m (Maps.size D + 1) (D.put (.int .i64 f.page) (.lit (.int .i64 (i : Int)))) → PCells w' b (plist (S.put i (some ⟨true, 0, f⟩)) m) 70 → PoolAt w' b m (S.put i (some ⟨true, 0, f⟩)) := by
  have hlt := (List.getElem?_eq_some_iff.1 hi).1
  have h16 := hS.len
  have ok : (S.put i (some ⟨true, 0, f⟩)).Ok K := hS.put i _ ⟨hf, hm, Int.le_refl _, hK⟩ (fun j l' _ hj => posF_none hp j l' hj)
  refine ⟨h.cells.there _ _ (by rw [plist_len hS, pA_size hf]; omega), ?_, ?_⟩
  · have e := plist_patch hS m (j := 0) (y := some ⟨true, 0, f⟩) hi (pcells (some ⟨true, 0, f⟩)) (by rw [pcells_len (fun l0 e0 => by injection e0 with e0; subst e0; exact hf.body)]; omega)
      (patch_all _ _ (by rw [pc_none_len, pcells_len (fun l0 e0 => by injection e0 with e0; subst e0; exact hf.body)]))
    rw [Nat.add_zero] at e
    rw [← e]
    exact h.cells.sets _ (by have := pA_size (l := ⟨true, 0, f⟩) hf; rw [plist_len hS, Array.length_toList, this]; omega)
  · obtain ⟨D, hD, hM⟩ := h.map
    refine ⟨D, hD, ?_, fun w' h1 h2 => ⟨h2, _, owns_tight h1, hM.add (hD.tidy (Maps.int_keyed Try.underlying3)) hS ok hi hp hf.page⟩⟩
    rw [hM.2]
    have := cnt_le S.s
    simp only [maxLen]
    omega
set_option maxHeartbeats 8000000 in
theorem set_miss (w : World) (b m : Nat) {K : Int} {S : PS} (h : PoolAt w b m S) (hS : S.Ok K) (hK : 0 ≤ K) (f : Fr) (hf : f.Ok) (hm : mayF f = true) (hi : posF f.page S.s = none) :
    Calls Try.prog 19 #[.pointer (some ⟨b, 0, none⟩), .agg (fA f)] w (fun e w' => e = .returned (.int .i64 (setS S f).1) ∧ PoolAt w' b m (setS S f).2 ∧ Ex (PB b m) w w') := by
  have hC : FCells (w.alloc (.cells (fA f) 39)) w.heap.size f := ⟨heap_alloc_new w _⟩
  have HX := Lib.hid (heap_alloc_new w (.cells (fA f) 39))
  have hP := h.alloc (.cells (fA f) 39)
  have HE := Lib.hid (Ex.alloc (PB b m) w (.cells (fA f) 39))
  have c0 := (hC.c hf).1
  have HO := Lib.hid hf
  have HP := Lib.hid hP
  have HM := Lib.hid (may_any f hf (w.alloc (.cells (fA f) 39)))
  rw [hm] at HM
  have HAt := Lib.hid (at_miss _ b m hP hS f.page hf.page hi)
  have HS := Lib.hid hS
  have HMf := Lib.hid hm
  have HI := Lib.hid hi
  have h16 := hS.len
  have hgb : w.heap.size ≠ b := fun e => by have := h.cells.lt; omega
  have hgm : w.heap.size ≠ m := fun e => by have := h.mlt; omega
  clear h hS hP hC hf hm hi
  go_enter Try.func19, Try.ntmps19
  go_wp2_with fail
  refine HAt.out.mono ?_
  rintro e w' ⟨rfl, rfl⟩
  go_wp2_with (refine wpList_load_row rfl 39 (.tmp 3) rfl w.heap.size rfl 39 (fA f) (0, 0) _ HX.out Try.underlying39 rfl (infoFrA HO.out) ?_)
  refine HM.out.mono ?_
  rintro e w1 ⟨rfl, hb⟩
  have HP1 := Lib.hid (HP.out.later hb)
  have cn := HP1.out.n HS.out
  have HE1 := Lib.hid (HE.out.trans (Ex.below hb))
  have HX1 := Lib.hid ((hb.block _ (Array.getElem?_eq_some_iff.1 HX.out).1).trans HX.out)
  clear hb HP HE HX
  go_wp2_with fail
  go_loopg [37] S.s.length (fun kk i wr => ∃ j : Nat, i = .int .i64 (j : Int) ∧ Hid (j + kk = S.s.length ∧ firstF (fun x => x.isNone) (S.s.drop j) j = freeF S.s) ∧ w1 = wr)
  case atStart => exact ⟨0, rfl, Lib.hid ⟨Nat.zero_add _, rfl⟩, rfl⟩
  case round =>
    obtain ⟨j, rfl, hj, rfl⟩ := hrel
    by_cases hlt : j < S.s.length
    · have hq := firstF_drop (fun x => x.isNone) S.s j hlt
      have hgq := List.getElem?_eq_getElem hlt
      have hj16 : j < 16 := by omega
      have hj16i : (j : Int) < 16 := by omega
      cases hsj : S.s[j] with
      | some l =>
        rw [hsj] at hq hgq
        rw [if_neg (by simp)] at hq
        have cl := (HP1.out.live HS.out hgq).1
        have HQ := Lib.hid (hq.symm.trans hj.out.2)
        clear hq hgq hsj
        go_wp2_with fail
        go_roundg (gk - 1)
        case measure => have := hj.out; omega
        case rel => exact ⟨j + 1, (by go_num), Lib.hid ⟨(by have := hj.out; omega), HQ.out⟩, rfl⟩
      | none =>
        rw [hsj] at hq hgq
        simp only [Option.isNone_none, if_true] at hq
        have cl := HP1.out.free HS.out hgq
        have HR := Lib.hid (setS_new HMf.out HI.out (hj.out.2.symm.trans hq))
        have HG := Lib.hid hgq
        clear hq hgq hsj
        go_upto_region 13 with fail
        have hPd : PoolAt w1.drew b m S := ⟨HP1.out.cells, HP1.out.map⟩
        obtain ⟨ht, hCC, D, hD, hDn, hfin⟩ := hPd.taken HS.out hK HO.out HMf.out HG.out HI.out
        have HT := Lib.hid ht
        have HCC := Lib.hid hCC
        have HD := Lib.hid hD
        have HFin := Lib.hid hfin
        clear ht hCC hD hfin hPd
        have U : Up (fun k => k = b) w1.drew (fun u => u.heap[w.heap.size]? = some (.cells (fA f) 39 (0, 0))) := fun u hu => (hu.block _ (Array.getElem?_eq_some_iff.1 HX1.out).1 hgb).trans HX1.out
        refine wp_region_seq (fun k => k = b) [] [(0, true), (1, true), (2, true), (3, true), (4, true), (5, true), (6, true), (7, false)] (by kernel_rfl) (by kernel_rfl) (fun _ _ d _ _ h => by cases d <;> exact h) rfl (by kernel_rfl) ?_
        refine seq_at (some 48) (v := ?_) rfl (by kernel_rfl) (by kernel_rfl) ?_ ?_
        rotate_left
        · intro w' hw'
          go_simp
          try with_reducible rfl
        simp only [Act.put, List.setIfInBounds_toArray, List.set_cons_zero, List.set_cons_succ]
        refine seq_at (some 49) (v := ?_) rfl (by kernel_rfl) (by kernel_rfl) ?_ ?_
        rotate_left
        · intro w' hw'
          go_simp
          try with_reducible rfl
        simp only [Act.put, List.setIfInBounds_toArray, List.set_cons_zero, List.set_cons_succ]
        refine seq_load_fr (some 50) rfl (by kernel_rfl) (by kernel_rfl) (.tmp 3) rfl w.heap.size f rfl HO.out U ?_
        simp only [Act.put, List.setIfInBounds_toArray, List.set_cons_zero, List.set_cons_succ]
        refine seq_build (some 51) rfl (by kernel_rfl) (by kernel_rfl) 66 [(0, .const (.bool true)), (1, .const (.bool true)), (3, .tmp 50)] rfl (pA ⟨true, 0, f⟩) (built_place f HO.out) ?_
        simp only [Act.put, List.setIfInBounds_toArray, List.set_cons_zero, List.set_cons_succ]
        refine seq_at (some 52) (v := ?_) rfl (by kernel_rfl) (by kernel_rfl) ?_ ?_
        rotate_left
        · intro w' hw'
          go_simp
          try with_reducible rfl
        simp only [Act.put, List.setIfInBounds_toArray, List.set_cons_zero, List.set_cons_succ]
        refine seq_at (some 53) (v := ?_) rfl (by kernel_rfl) (by kernel_rfl) ?_ ?_
        rotate_left
        · intro w' hw'
          go_simp
          try with_reducible rfl
        simp only [Act.put, List.setIfInBounds_toArray, List.set_cons_zero, List.set_cons_succ]
        refine seq_at (some 54) (v := ?_) rfl (by kernel_rfl) (by kernel_rfl) ?_ ?_
        rotate_left
        · intro w' hw'
          go_simp
          try with_reducible rfl
        simp only [Act.put, List.setIfInBounds_toArray, List.set_cons_zero, List.set_cons_succ]
        refine seq_eff rfl (by kernel_rfl) (fun K0 hK0 => ?_)
        refine wp_store_mid 66 (.tmp 54) (.tmp 51) rfl b (j * 105) (pA ⟨true, 0, f⟩) rfl rfl HT.out (pA_info HO.out) (pA_all _) ?_
        show K0 (Act.put _ none undef) _
        simp only [Act.put]
        refine hK0.out _ _ (.inl (setCells_ex (T := fun k => k = b) _ _ _ rfl)) ?_
        refine seq_nil ?_
        have ok' : (S.put j (some ⟨true, 0, f⟩)).Ok K := by have := setS_ok HS.out hK HO.out; rw [HR.out] at this; exact this
        have cm : (w1.drew.setCells b (j * 105) (pA ⟨true, 0, f⟩).toList).cell? ⟨b, 1681, none⟩ = some (.map (some m)) := by rw [HCC.out.cell]; exact (plist_tail ok' m).2.1
        have exA := setCells_ex (T := fun k => k = b) (pA ⟨true, 0, f⟩).toList (j * 105) w1.drew rfl
        have hXA := (exA.block _ (Array.getElem?_eq_some_iff.1 HX1.out).1 hgb).trans HX1.out
        have cp : (w1.drew.setCells b (j * 105) (pA ⟨true, 0, f⟩).toList).cell? ⟨w.heap.size, 0, none⟩ = some (.int .i64 f.page) := (FCells.c ⟨hXA⟩ HO.out).1
        have HDA := Lib.hid (owns_kept HD.out exA HP1.out.ne)
        have HEA := Lib.hid ((HE1.out.trans (Ex.drew (PB b m) w1)).trans (exA.mono (T' := PB b m) fun k hk => .inl hk))
        have hmb := HP1.out.ne
        clear exA hXA HT HD U HX1 HE1 HP1 cn cl
        generalize w1.drew.setCells b (j * 105) (pA ⟨true, 0, f⟩).toList = w2 at *
        go_upto_region 14 with fail
        have U : Up (fun k => k = m) w2.drew (fun u => u.cell? ⟨b, 1681, none⟩ = some (.map (some m)) ∧ u.cell? ⟨w.heap.size, 0, none⟩ = some (.int .i64 f.page)) := (Up.cell (w := w2.drew) cm (fun e => hmb e.symm)).and (Up.cell (w := w2.drew) cp hgm)
        refine wp_region_seq (fun k => k = m) [] [(0, true), (1, true), (2, true), (3, true), (4, true), (5, true), (6, true), (7, false)] (by kernel_rfl) (by kernel_rfl) (fun _ _ d _ _ h => by cases d <;> exact h) rfl (by kernel_rfl) ?_
        refine seq_at (some 55) (v := ?_) rfl (by kernel_rfl) (by kernel_rfl) ?_ ?_
        rotate_left
        · intro w' hw'
          obtain ⟨q0, q1⟩ := U w' hw'
          go_simp
          try with_reducible rfl
        simp only [Act.put, List.setIfInBounds_toArray, List.set_cons_zero, List.set_cons_succ]
        refine seq_at (some 56) (v := ?_) rfl (by kernel_rfl) (by kernel_rfl) ?_ ?_
        rotate_left
        · intro w' hw'
          obtain ⟨q0, q1⟩ := U w' hw'
          go_simp
          try with_reducible rfl
        simp only [Act.put, List.setIfInBounds_toArray, List.set_cons_zero, List.set_cons_succ]
        refine seq_at (some 57) (v := ?_) rfl (by kernel_rfl) (by kernel_rfl) ?_ ?_
        rotate_left
        · intro w' hw'
          obtain ⟨q0, q1⟩ := U w' hw'
          go_simp
          try with_reducible rfl
        simp only [Act.put, List.setIfInBounds_toArray, List.set_cons_zero, List.set_cons_succ]
        refine seq_at (some 58) (v := ?_) rfl (by kernel_rfl) (by kernel_rfl) ?_ ?_
        rotate_left
        · intro w' hw'
          obtain ⟨q0, q1⟩ := U w' hw'
          go_simp
          try with_reducible rfl
        simp only [Act.put, List.setIfInBounds_toArray, List.set_cons_zero, List.set_cons_succ]
        refine seq_at (some 59) (v := ?_) rfl (by kernel_rfl) (by kernel_rfl) ?_ ?_
        rotate_left
        · intro w' hw'
          obtain ⟨q0, q1⟩ := U w' hw'
          go_simp
          try with_reducible rfl
        simp only [Act.put, List.setIfInBounds_toArray, List.set_cons_zero, List.set_cons_succ]
        refine seq_at (some 60) (v := ?_) rfl (by kernel_rfl) (by kernel_rfl) ?_ ?_
        rotate_left
        · intro w' hw'
          obtain ⟨q0, q1⟩ := U w' hw'
          go_simp
          try with_reducible rfl
        simp only [Act.put, List.setIfInBounds_toArray, List.set_cons_zero, List.set_cons_succ]
        refine seq_at (some 61) (v := ?_) rfl (by kernel_rfl) (by kernel_rfl) ?_ ?_
        rotate_left
        · intro w' hw'
          obtain ⟨q0, q1⟩ := U w' hw'
          go_simp
          try with_reducible rfl
        simp only [Act.put, List.setIfInBounds_toArray, List.set_cons_zero, List.set_cons_succ]
        refine seq_eff rfl (by kernel_rfl) (fun K' hK' => ?_)
        have hDd : OwnsI w2.drew m (Maps.size D) D := owns_kept HDA.out (Ex.drew (fun _ => False) w2) id
        have hwf : (Lit.int .i64 (j : Int)).wf = true := wf64 (by unfold I64; omega)
        have hpl : plainElem (H := Unit) Try.prog 3 (.int .i64 (j : Int)) = some (.lit (.int .i64 (j : Int)), []) := plainElem_int Try.underlying3 hwf
        have hkey := int_key HO.out.page
        refine wp_mapUpdate_in (.tmp 58) (.tmp 60) (.tmp 61) 68 rfl 3 3 (Maps.int_keyed Try.underlying3) Try.underlying68 (plainElem Try.prog 3) m (Maps.size D) D rfl hDd hDn (.int .i64 f.page) (.int .i64 (j : Int)) _ rfl rfl hkey _ _ hpl ?_
        intro w3 hown3 hturn3
        have ex3 := turned_ex hturn3
        have HP3 := Lib.hid (HFin.out w3 hown3 ((show PCells w2.drew b _ _ from HCC.out).kept ex3 (Ne.symm hmb)))
        have HE3 := Lib.hid ((HEA.out.trans (Ex.drew (PB b m) w2)).trans (ex3.mono (T' := PB b m) fun k hk => .inr hk))
        show K' (Act.put _ none undef) _
        simp only [Act.put]
        refine hK'.out _ _ (.inl ex3) ?_
        refine seq_nil ?_
        clear hown3 hturn3 ex3 HFin HCC HDA HEA
        go_wp2_with fail
        go_ret
        exact ⟨by rw [HR.out]; rfl, by rw [HR.out]; exact HP3.out, HE3.out⟩
    · have HQ : Hid (freeF S.s = none) := Lib.hid (by rw [← hj.out.2, List.drop_eq_nil_of_le (by omega)]; rfl)
      have HR := Lib.hid (setS_full HMf.out HI.out HQ.out)
      go_wp2_with fail
      go_ret
      exact ⟨by rw [HR.out]; rfl, by rw [HR.out]; exact HP1.out, HE1.out⟩
end Go.Proofs.Ytjbjfpbhacpeiaa
