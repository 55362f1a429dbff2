/- Contract of the document's All. -/
import Derived.Test.YtjbjfpbhacpeiaaQ2
import Derived.Test.YtjbjfpbhacpeiaaR5
import Derived.Test.YtjbjfpbhacpeiaaS1
import Derived.Great.BuildSlice
namespace Go.Proofs.Ytjbjfpbhacpeiaa
open Go.RowKit
set_option linter.unusedSimpArgs false
set_option linter.unusedVariables false
set_option maxRecDepth 100000

theorem infoFr3 : (Try.prog.info? 39).map (fun i => (i.zero, i.size, i.bytes)) = some (some (.agg (fA fr0)), 102, 144) := by kernel_rfl
theorem fill_frame (f : Fr) (hf : f.Ok) : Instr.fill (fun i => some (i * 102, 102)) ((Array.range (1 * 102)).map ((fA fr0)[· % (fA fr0).size]!)) [(0, .agg (fA f))] = some (fA f) := by
  have h0 : ((Array.range (1 * 102)).map ((fA fr0)[· % (fA fr0).size]!)) = (fcells fr0).toArray := by
    have hs : (fA fr0).size = 102 := by rw [fA, List.size_toArray, fcells_len fr0_ok]
    have h := rep_cells (fcells fr0) 102 1 (fcells_len fr0_ok) (by omega)
    have e : ((Array.range (1 * 102)).map ((fA fr0)[· % (fA fr0).size]!)) = Builtin.zeroCells (fA fr0) 1 := by unfold Builtin.zeroCells; rw [hs]
    rw [e]
    apply Array.toList_inj.1
    rw [fA, h]
    simp
  rw [h0, fill_cons (v := .agg (fA f)) (off := 0) (size := 102) rfl (by show (fA f).size = 102; rw [fA, List.size_toArray, fcells_len hf]) (by rw [fcells_len fr0_ok]; omega)]
  show some (patch (fcells fr0) 0 (fcells f)).toArray = _
  rw [patch_all _ _ (by rw [fcells_len fr0_ok, fcells_len hf])]
  rfl
theorem wpList_build1 {ops : Array Oper} {rest : List Oper} {o : Oper} {a : Act} {w : World} {Q : Exit → Act → World → Prop} (hg : o.guard = none) (x : Operand) (ho : o.op = .buildSlice 78 1 #[(0, x)]) (f : Fr) (hf : f.Ok) (hx : a.eval x = .agg (fA f))
    (h : wpList Try.prog ops Q rest (a.put o.dst (.slice (some ⟨w.heap.size, 0, none⟩) 1 1)) (w.alloc (.cells (fA f) 39))) : wpList Try.prog ops Q (o :: rest) a w := by
  cases hi : Try.prog.info? 39 with
  | none => have := infoFr3; rw [hi] at this; cases this
  | some i =>
    have h3 := infoFr3
    rw [hi] at h3
    simp only [Option.map_some, Option.some.injEq, Prod.mk.injEq] at h3
    obtain ⟨hz, hs, hb⟩ := h3
    refine wpList_buildSlice hg 78 39 1 #[(0, x)] ho (fA f) i (.agg (fA fr0)) Try.underlying78 hi hz (by rw [hs]; decide) (by rw [hs]; decide) ?_ h
    rw [hs]
    have e : ((#[(0, x)] : Array (Nat × Operand)).map fun (i, x) => (i, a.eval x)).toList = [(0, .agg (fA f))] := by simp [hx]
    rw [e]
    exact fill_frame f hf
def allK (S : PS) (k : Nat) : List Fr := (List.range k).filterMap fun p : Nat => (lookS S (p : Int)).map (·.f)
theorem allK_16 (S : PS) : allK S 16 = allS S := rfl
theorem allK_le (S : PS) (k : Nat) : (allK S k).length ≤ k := by
  have := List.length_filterMap_le (fun p : Nat => (lookS S (p : Int)).map (·.f)) (List.range k)
  rw [List.length_range] at this
  exact this
theorem allK_yes {S : PS} {k : Nat} (h : (lookV S (k : Int)).2 = true) : allK S (k + 1) = allK S k ++ [(lookV S (k : Int)).1] := by
  unfold allK
  rw [List.range_succ, List.filterMap_append]
  congr 1
  unfold lookV at h ⊢
  cases hl : lookS S (k : Int) with
  | none => rw [hl] at h; cases h
  | some l => simp [hl]
theorem allK_no {S : PS} {k : Nat} (h : (lookV S (k : Int)).2 = false) : allK S (k + 1) = allK S k := by
  unfold allK
  rw [List.range_succ, List.filterMap_append]
  unfold lookV at h
  cases hl : lookS S (k : Int) with
  | none => simp [hl]
  | some l => rw [hl] at h; cases h
theorem fcs_one (L : List Fr) : ∀ u ∈ L.flatMap fcells, u.oneCell' = true := fun u hu => by
  obtain ⟨f, _, hu⟩ := List.mem_flatMap.1 hu
  exact fcells_one f u hu
theorem at_row {w : World} {g : Nat} {cs : Array Value} {t : TypeId} (h : w.heap[g]? = some (.cells cs t (0, 0))) : At w (some ⟨g, 0, none⟩) cs.toList := fun j u hj => ⟨_, rfl, by
  rw [add0]
  simp only [World.cell?, h]
  simpa using hj⟩
set_option maxHeartbeats 8000000 in
theorem rall_any (w : World) (r q : Nat) {K : Int} {S : PS} (h : RefAt w r q S) (hS : S.Ok K) :
    Calls Try.prog 39 #[.pointer (some ⟨r, 0, none⟩)] w (fun e w' => ∃ v, e = .returned v ∧ w'.ownsRow w.heap.size 39 102 v (allS S).length ((allS S).flatMap fcells) ∧ Below w.heap.size w w') := by
  have hz := zfr
  have HR := Lib.hid h
  have HS := Lib.hid hS
  clear h hS
  go_enter Try.func39, Try.ntmps39
  go_wp2_with fail
  go_loopg [3, 4] 16 (fun kk v i wr => ∃ k : Nat, i = .int .i64 (k : Int) ∧ Hid (k + kk = 16 ∧ wr.ownsRow w.heap.size 39 102 v (allK S k).length ((allK S k).flatMap fcells) ∧ Below w.heap.size w wr))
  case atStart => exact ⟨0, rfl, Lib.hid ⟨Nat.zero_add _, ⟨by simp [allK], .inl ⟨rfl, rfl⟩⟩, Below.refl _ _⟩⟩
  case round =>
    obtain ⟨k, rfl, hj⟩ := hrel
    by_cases hlt : k < 16
    · have hlI : (k : Int) < 16 := by omega
      have HL := Lib.hid (rlook_any wr r q (HR.out.later hj.out.2.2) HS.out (k : Int))
      have HO := Lib.hid (look_ok HS.out (k : Int))
      cases hv : (lookV S (k : Int)).2 with
      | false =>
        rw [hv] at HL
        have HK := Lib.hid (allK_no hv)
        generalize (lookV S (k : Int)).1 = f at *
        clear hv
        go_wp2_with fail
        refine HL.out.mono ?_
        rintro e w1 ⟨rfl, hb⟩
        have HB := Lib.hid hb
        clear hb
        go_wp2_with (refine wpList_store_row rfl 39 (.tmp 5) (.tmp 15) rfl _ (fA f) rfl rfl 39 _ (heap_alloc_new _ (.cells (fA fr0) 39)) (infoFrA HO.out) (fA_size fr0_ok HO.out) (fv_all _) ?_; rw [World.setRow_alloc_new])
        go_roundg (gk - 1)
        case measure => have := hj.out; omega
        case rel =>
          have h2 := HB.out.trans ((Below.refl _ w1).alloc HB.out.size (.cells (fA f) 39))
          exact ⟨k + 1, (by go_num), Lib.hid ⟨(by have := hj.out; omega), by rw [HK.out]; exact own_below hj.out.2.1 h2, Bl.step hj.out.2.2 h2⟩⟩
      | true =>
        rw [hv] at HL
        have HK := Lib.hid (allK_yes hv)
        have hkl := allK_le S k
        generalize (lookV S (k : Int)).1 = f at *
        clear hv
        go_wp2_with fail
        refine HL.out.mono ?_
        rintro e w1 ⟨rfl, hb⟩
        have h2 := hb.trans ((Below.refl _ w1).alloc hb.size (.cells (fA f) 39))
        have HX := Lib.hid (heap_alloc_new w1 (.cells (fA f) 39))
        go_upto_region 7 with (refine wpList_store_row rfl 39 (.tmp 5) (.tmp 15) rfl _ (fA f) rfl rfl 39 _ (heap_alloc_new _ (.cells (fA fr0) 39)) (infoFrA HO.out) (fA_size fr0_ok HO.out) (fv_all _) ?_; rw [World.setRow_alloc_new])
        have hJ := hj.out
        have ho2 := own_below hJ.2.1 h2
        have hb2 := Bl.step hJ.2.2 h2
        clear h2 hb
        generalize w1.heap.size = g5 at *
        generalize w1.alloc (.cells (fA f) 39) = w2 at *
        have HO2 := Lib.hid (ho2.alloc (.cells (fA f) 39))
        have HB2 := Lib.hid (hb2.alloc hb2.size (.cells (fA f) 39))
        have HN : Hid (At (w2.alloc (.cells (fA f) 39)) (some ⟨w2.heap.size, 0, none⟩) (fcells f)) := Lib.hid (at_row (heap_alloc_new w2 (.cells (fA f) 39)))
        have hbs : w.heap.size ≤ (w2.alloc (.cells (fA f) 39)).heap.size := HB2.out.size
        have HBS := Lib.hid hbs
        have hk16 : (allK S k).length ≤ 16 := by omega
        clear ho2 hb2 hbs hJ
        go_wp2_with (first
          | (refine wpList_load_row rfl 39 (.tmp 5) rfl g5 rfl 39 (fA f) (0, 0) _ HX.out Try.underlying39 rfl (infoFrA HO.out) ?_)
          | (refine wpList_build1 rfl (.tmp 19) rfl f HO.out rfl ?_)
          | (refine app_rows _ rfl (.tmp 18) (.tmp 20) 78 rfl w.heap.size 39 (.agg (fA fr0)) 102 144 Try.underlying78 infoFr3 (by show (fA fr0).size = 102; rw [fA, List.size_toArray, fcells_len fr0_ok]) (by omega) _ _ _ rfl HO2.out _ 1 1 (fcells f) rfl (by rw [fcells_len HO.out]) HN.out (fcells_one f) (by simp only [maxLen]; omega) (by omega) HBS.out ?_; intro v3 w3 ho3 hg3 hf3))
        go_roundg (gk - 1)
        case measure => have := hj.out; omega
        case rel =>
          refine ⟨k + 1, (by go_num), Lib.hid ⟨(by have := hj.out; omega), ?_, ?_⟩⟩
          · rw [HK.out, List.flatMap_append, List.length_append]
            simpa using ho3
          · exact Bl.grown HB2.out hg3 (fun k hk => (own_lt HO2.out hk).1)
    · have hk : k = 16 := by have := hj.out.1; omega
      subst hk
      have hJ := hj.out
      rw [allK_16] at hJ
      have HJ := Lib.hid hJ.2
      clear hJ hj
      go_wp2_with fail
      go_ret
      exact ⟨_, rfl, HJ.out.1, HJ.out.2⟩
end Go.Proofs.Ytjbjfpbhacpeiaa
