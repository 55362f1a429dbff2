/- Contract of the pool's Drop. -/
import Derived.Test.YtjbjfpbhacpeiaaP3
namespace Go.Proofs.Ytjbjfpbhacpeiaa
open Go.RowKit
set_option linter.unusedSimpArgs false
set_option linter.unusedVariables false
set_option maxRecDepth 100000

section
variable {S : PS} {p : Int}
theorem dropS_hit {i : Nat} {l : Live} (hi : posF p S.s = some i) (hl : S.s[i]? = some (some l)) : dropS S p = ((l.f, 0), S.put i none) := by simp [dropS, hi, hl]
theorem dropS_miss (hi : posF p S.s = none) : dropS S p = ((fr0, 6), S) := by simp [dropS, hi]
end
theorem dropS_ok {K : Int} {S : PS} (hS : S.Ok K) (p : Int) : (dropS S p).2.Ok K := by
  cases hi : posF p S.s with
  | none => rw [dropS_miss hi]; exact hS
  | some i =>
    obtain ⟨l, hl, _⟩ := posF_some hi
    rw [dropS_hit hi hl]
    exact hS.free i
theorem pc_none_len : (pcells none).length = 105 := pcells_len (fun l e => by cases e)
def pzA : Array Value := (pcells none).toArray
theorem zpl (w : World) : (zeroValue 66).run Try.prog w = .ok (.agg pzA) w := by kernel_rfl
theorem pzA_size : pzA.size = 105 := by rw [pzA, List.size_toArray, pc_none_len]
theorem pzA_info : (Try.prog.info? 66).map (·.size) = some pzA.size := infoPl.trans (by rw [pzA_size])
theorem patch_all {β : Type} (A vs : List β) (h : A.length = vs.length) : patch A 0 vs = vs := by simp [patch, ← h]
theorem pcells_one (x : Slot) : ∀ u ∈ pcells x, u.oneCell' = true := by
  intro u hu
  cases x with
  | none =>
    simp only [pcells, List.mem_append, List.mem_cons, List.not_mem_nil, or_false] at hu
    rcases hu with (rfl | rfl | rfl) | hu
    all_goals first | rfl | exact fcells_one _ u hu
  | some l =>
    simp only [pcells, List.mem_append, List.mem_cons, List.not_mem_nil, or_false] at hu
    rcases hu with (rfl | rfl | rfl) | hu
    all_goals first | rfl | exact fcells_one _ u hu
theorem pzA_all : pzA.all (·.oneCell') = true := all_oneCell_toArray (pcells_one none)
theorem turned_ex {w w' : World} {m : Nat} (h : w.mapTurned w' m) : Ex (fun k => k = m) w w' := Ex.grown h.grown (fun k hk => by injection hk with hk; exact hk.symm)
theorem int_key {p : Int} (hp : I64 p) : Go.keyOf Try.prog 3 (.int .i64 p) = some (.int .i64 p) :=
  Maps.keyOf_int_mk Try.underlying3 (by unfold I64 at hp; simp only [Lit.wf, Bool.and_eq_true, decide_eq_true_eq]; exact hp)
section
variable (w : World) (b m : Nat) {K : Int} {S : PS} (h : PoolAt w b m S) (hS : S.Ok K) (p : Int) (hp : I64 p)
include h hS hp
set_option maxHeartbeats 4000000 in
theorem drop_any : Calls Try.prog 22 #[.pointer (some ⟨b, 0, none⟩), .int .i64 p] w (fun e w' => e = .returned (.tuple #[.agg (fA (dropS S p).1.1), .int .i64 (dropS S p).1.2]) ∧ PoolAt w' b m (dropS S p).2 ∧ Ex (PB b m) w w') := by
  have hz := zfr
  have hzp := zpl
  have HX := Lib.hid (heap_alloc_new w (.cells (fA fr0) 39))
  have hP := h.alloc (.cells (fA fr0) 39)
  have HE := Lib.hid (Ex.alloc (PB b m) w (.cells (fA fr0) 39))
  have hnb : w.heap.size ≠ b := fun e => by have := h.cells.lt; omega
  have hnm : w.heap.size ≠ m := fun e => by have := h.mlt; omega
  cases hi : posF p S.s with
  | none =>
    have H := Lib.hid (at_miss _ b m hP hS p hp hi)
    rw [dropS_miss hi]
    have HP := Lib.hid hP
    clear h hS hi hP
    go_enter Try.func22, Try.ntmps22
    go_wp2_with fail
    refine H.out.mono ?_
    rintro e w' ⟨rfl, rfl⟩
    go_wp2_with (refine wpList_store_row rfl 39 (.tmp 4) (.tmp 17) rfl w.heap.size (fA fr0) rfl rfl 39 _ HX.out (infoFrA fr0_ok) rfl (fv_all _) ?_; rw [World.setRow_alloc_new])
    exact fr_end rfl rfl rfl rfl fr0_ok HX.out ⟨rfl, HP.out, HE.out⟩
  | some i =>
    obtain ⟨l, hl, epg⟩ := posF_some hi
    have H := Lib.hid (at_hit _ b m hP hS p hp i hi)
    have HR := Lib.hid (hP.fr hS hl)
    have HO := Lib.hid (hS.live i l hl).1
    have hlt := (List.getElem?_eq_some_iff.1 hl).1
    have h16 := hS.len
    have hP1 := hP.alloc (.cells (fA l.f) 39)
    have HX1 := Lib.hid ((Below.heap_alloc (w.alloc (.cells (fA fr0) 39)) (.cells (fA l.f) 39) w.heap.size (by simp)).trans HX.out)
    have HY1 := Lib.hid (heap_alloc_new (w.alloc (.cells (fA fr0) 39)) (.cells (fA l.f) 39))
    have HE1 := Lib.hid (HE.out.trans (Ex.alloc (PB b m) _ (.cells (fA l.f) 39)))
    have hs1 : (w.alloc (.cells (fA fr0) 39)).heap.size = w.heap.size + 1 := by simp
    rw [hs1] at HY1
    have HM1 : Hid (∀ W1, W1 = (w.alloc (.cells (fA fr0) 39)).alloc (.cells (fA l.f) 39) → W1.there b (i * 105) 105 ∧ PCells (W1.setCells b (i * 105) (pcells none)) b (plist (S.put i none) m) 70 ∧ ∃ D, OwnsI (W1.setCells b (i * 105) (pcells none)) m (Maps.size D) D ∧ MapR D S.s) := by
      intro W1 e
      rw [← e] at hP1
      refine ⟨hP1.cells.there _ _ (by rw [plist_len hS]; omega), ?_, ?_⟩
      · have e2 := plist_patch hS m (j := 0) (y := none) hl (pcells none) (by rw [pc_none_len]; omega) (patch_all _ _ (by rw [pc_none_len, pcells_len (fun l0 e0 => by injection e0 with e0; subst e0; exact HO.out.body)]))
        rw [Nat.add_zero] at e2
        rw [← e2]
        exact hP1.cells.sets _ (by rw [plist_len hS, pc_none_len]; omega)
      · obtain ⟨D, hD, hM⟩ := hP1.map
        exact ⟨D, owns_kept hD (setCells_ex (T := fun k => k = b) _ _ W1 rfl) hP1.ne, hM⟩
    have hbm := h.ne
    have HS := Lib.hid hS
    have HL := Lib.hid hl
    have sb := h.cells.lt
    have sm := h.mlt
    rw [dropS_hit hi hl]
    obtain ⟨ht, hC, D, hD, hM⟩ := HM1.out _ rfl
    clear h hS hi hP hl hP1 HE HX HM1
    have HC := Lib.hid hC
    have HD := Lib.hid hD
    have HT := Lib.hid ht
    have HM := Lib.hid hM
    clear hC hD ht hM
    go_enter Try.func22, Try.ntmps22
    go_wp2_with fail
    refine H.out.mono ?_
    rintro e w' ⟨rfl, rfl⟩
    go_upto_region 5 with (first | (refine wpList_load_mid rfl 39 (.tmp 21) rfl b (i * 105 + 3) rfl (fcells l.f) _ HR.out Try.underlying39 rfl (infoFrL HO.out) ?_) | (refine wpList_store_row rfl 39 (.tmp 8) (.tmp 22) rfl (w.heap.size + 1) (fA l.f) rfl rfl 39 _ (by rw [← hs1]; exact heap_alloc_new _ _) (infoFrA HO.out) (fA_size fr0_ok HO.out) (fv_all _) ?_; rw [← hs1, World.setRow_alloc_new, hs1]))
    generalize (w.alloc (.cells (fA fr0) 39)).alloc (.cells (fA l.f) 39) = w1 at *
    go_upto_region 6 with (refine wpList_store_mid rfl 66 (.tmp 25) (.tmp 24) rfl b (i * 105) pzA rfl rfl (by rw [pzA_size]; exact HT.out) pzA_info pzA_all ?_)
    have HX2 : Hid ((w1.setCells b (i * 105) pzA.toList).heap[w.heap.size]? = some (.cells (fA fr0) 39 (0, 0))) := Lib.hid (((setCells_ex (T := fun k => k = b) pzA.toList (i * 105) w1 rfl).block _ (Array.getElem?_eq_some_iff.1 HX1.out).1 hnb).trans HX1.out)
    have HY2 : Hid ((w1.setCells b (i * 105) pzA.toList).heap[w.heap.size + 1]? = some (.cells (fA l.f) 39 (0, 0))) := Lib.hid (((setCells_ex (T := fun k => k = b) pzA.toList (i * 105) w1 rfl).block _ (Array.getElem?_eq_some_iff.1 HY1.out).1 (by omega)).trans HY1.out)
    have HE2 := Lib.hid (HE1.out.trans (setCells_ex (T := PB b m) pzA.toList (i * 105) w1 (.inl rfl)))
    have HC2 : Hid (PCells (w1.setCells b (i * 105) pzA.toList) b (plist (S.put i none) m) 70) := HC
    have HD2 : Hid (OwnsI (w1.setCells b (i * 105) pzA.toList) m (Maps.size D) D) := HD
    have cm : (w1.setCells b (i * 105) pzA.toList).cell? ⟨b, 1681, none⟩ = some (.map (some m)) := by rw [HC2.out.cell]; exact (plist_tail (HS.out.free i) m).2.1
    generalize w1.setCells b (i * 105) pzA.toList = w2 at *
    clear HC HD HX1 HY1 HE1 HT HR
    go_upto_region 7 with (at_delete; refine wpList_delete_own _ rfl _ _ 68 3 rfl 3 (Maps.int_keyed Try.underlying3) Try.underlying68 _ m (Maps.size D) D rfl HD2.out (.int .i64 p) _ rfl (int_key hp) ?_; intro w3 hown3 hturn3)
    have ex3 := turned_ex hturn3
    have HX3 := Lib.hid ((ex3.block _ (Array.getElem?_eq_some_iff.1 HX2.out).1 hnm).trans HX2.out)
    have HY3 := Lib.hid ((ex3.block _ (Array.getElem?_eq_some_iff.1 HY2.out).1 (by omega)).trans HY2.out)
    have HE3 := Lib.hid (HE2.out.trans (ex3.mono (T' := PB b m) fun k hk => .inr hk))
    have hC3 : PCells w3 b (plist (S.put i none) m) 70 := HC2.out.kept ex3 (Ne.symm hbm)
    have HP3 : Hid (PoolAt w3 b m (S.put i none)) := Lib.hid ⟨hC3, _, owns_tight hown3, by rw [← epg]; exact HM.out.drop (HD2.out.tidy (Maps.int_keyed Try.underlying3)) HS.out HL.out⟩
    clear hown3 hturn3 ex3 hC3 HX2 HY2 HE2 HC2 HD2
    go_wp2_with (first | (refine wpList_load_row rfl 39 (.tmp 8) rfl (w.heap.size + 1) rfl 39 (fA l.f) (0, 0) _ HY3.out Try.underlying39 rfl (infoFrA HO.out) ?_) | (refine wpList_store_row rfl 39 (.tmp 4) (.tmp 31) rfl w.heap.size (fA l.f) rfl rfl 39 _ HX3.out (infoFrA HO.out) (fA_size fr0_ok HO.out) (fv_all _) ?_))
    exact fr_end rfl rfl rfl rfl HO.out (setRow_at HX3.out) ⟨rfl, HP3.out.row _ hnb hnm _, HE3.out.row _ (Nat.le_refl _) _⟩
end
end Go.Proofs.Ytjbjfpbhacpeiaa
