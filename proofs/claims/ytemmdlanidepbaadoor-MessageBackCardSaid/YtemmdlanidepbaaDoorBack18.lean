/- The walk of MessageBack. -/
import Derived.Test.YtemmdlanidepbaaDoorDgRef2
import Derived.Test.YtemmdlanidepbaaDoorDgLaw
import Derived.Test.YtemmdlanidepbaaDoorKnown18
namespace Go.Proofs.YtemmdlanidepbaaDoor
open Go.RowKit
set_option linter.unusedSimpArgs false
set_option maxRecDepth 100000

theorem putB_inj {a b : Msg} (ha : a.Ok) (hb : b.Ok) (ma : mayM a = true) (mb : mayM b = true) : putB a = putB b ↔ a = b := by
  constructor
  · intro h
    have h1 := readM_put ha ma
    rw [h, readM_put hb mb] at h1
    injection h1 with h1
    exact h1.symm
  · intro h
    rw [h]
theorem putB_pos (a : Msg) : 1 ≤ (putB a).length := by
  unfold putB
  rw [List.length_append]
  have : 1 ≤ (enc a.kind.toNat).length := by rw [enc]; split <;> simp
  omega
theorem mayD_body {d : Dg} {X Y : List UInt8} (h : mayD { d with body := X } = true) (hX : 1 ≤ X.length) (hY : Y.length ≤ 256) : mayD { d with body := Y } = true := by
  simp [mayD] at h ⊢
  have h0 : d.sq ≠ 0 := by
    rcases h.1.2 with h | h
    · exact h
    · rw [h] at hX
      simp at hX
  simp [h0]
  refine ⟨⟨?_, by omega⟩, ?_⟩
  · exact h.1.1.1
  · exact h.2
theorem putD_inj {d : Dg} {X Y : List UInt8} (h1 : mayD { d with body := X } = true) (h2 : mayD { d with body := Y } = true) : putD { d with body := X } = putD { d with body := Y } ↔ X = Y := by
  constructor
  · intro h
    have e1 := parseD_put h1
    rw [h, parseD_put h2] at e1
    injection e1 with e1
    injection e1 with e1 _
    injection e1 with _ _ _ _ _ e1
    exact e1.symm
  · intro h
    rw [h]
section
variable (w : World) (a b : Msg) (ha : a.Ok) (hb : b.Ok) (d : Dg) (A : Option Addr) (c : Nat)
include ha hb
set_option maxHeartbeats 4000000 in
theorem back_nn (na : mayM a = false) (nb : mayM b = false) : Calls Tryd.prog 7 #[.agg (mcells a), .agg (mcells b), .agg (dcells d A c)] w (fun e w' => e = .returned (.bool true) ∧ Below w.heap.size w w') := by
  have hbl : Below w.heap.size w (((w.alloc (.cells (mcells a) 27)).alloc (.cells (mcells b) 27)).alloc (.cells (dcells d A c) 53)) := (((Below.refl _ _).alloc (Nat.le_refl _) _).alloc (by simp) _).alloc (by simp; omega) _
  have HXA1 : Hid ((((w.alloc (.cells (mcells a) 27)).alloc (.cells (mcells b) 27)).alloc (.cells (dcells d A c) 53)).heap[w.heap.size]? = some (.cells (mcells a) 27 (0, 0))) := by
    show _ = _
    rw [heap_alloc_old _ _ (by simp; omega)]
    exact heap_alloc2_old w _ _
  have HXB1 : Hid ((((w.alloc (.cells (mcells a) 27)).alloc (.cells (mcells b) 27)).alloc (.cells (dcells d A c) 53)).heap[w.heap.size + 1]? = some (.cells (mcells b) 27 (0, 0))) := by
    show _ = _
    rw [heap_alloc_old _ _ (by simp)]
    exact heap_alloc2_new w _ _
  have HXD1 : Hid ((((w.alloc (.cells (mcells a) 27)).alloc (.cells (mcells b) 27)).alloc (.cells (dcells d A c) 53)).heap[w.heap.size + 1 + 1]? = some (.cells (dcells d A c) 53 (0, 0))) := by
    show _ = _
    have := heap_alloc_new ((w.alloc (.cells (mcells a) 27)).alloc (.cells (mcells b) 27)) (.cells (dcells d A c) 53)
    simpa using this
  have HB1 := Lib.hid hbl
  have HSA := Lib.hid (mcells_size ha)
  have HSB := Lib.hid (mcells_size hb)
  have HPa := Lib.hid (fun u => msg_put_no a ha na u)
  have HPb := Lib.hid (fun u => msg_put_no b hb nb u)
  clear hbl
  generalize mcells a = ma at *
  generalize mcells b = mb at *
  obtain ⟨dc, hdc⟩ : ∃ dc, dc = dcells d A c := ⟨_, rfl⟩
  rw [← hdc] at HXA1 HXB1 HXD1 HB1 ⊢
  have HDC := Lib.hid hdc
  clear hdc
  go_enter Tryd.func7, Tryd.ntmps7
  go_wp2_with fail
  generalize ((w.alloc (.cells ma 27)).alloc (.cells mb 27)).alloc (.cells dc 53) = w1 at *
  refine (known18_any _).mono ?_
  rintro e w2 ⟨rfl, hb2⟩
  have HB2 := Lib.hid (Bl.step HB1.out hb2)
  have HXA2 := Lib.hid ((hb2.block _ (Array.getElem?_eq_some_iff.1 HXA1.out).1).trans HXA1.out)
  have HXB2 := Lib.hid ((hb2.block _ (Array.getElem?_eq_some_iff.1 HXB1.out).1).trans HXB1.out)
  have HXD2 := Lib.hid ((hb2.block _ (Array.getElem?_eq_some_iff.1 HXD1.out).1).trans HXD1.out)
  clear hb2 HB1 HXA1 HXB1 HXD1
  go_wp2_with (refine load_msg HSA.out rfl (.tmp 3) rfl w.heap.size rfl HXA2.out ?_)
  refine (HPa.out _).mono ?_
  rintro e w3 ⟨rfl, hb3⟩
  have HB3 := Lib.hid (Bl.step HB2.out hb3)
  have HXB3 := Lib.hid ((hb3.block _ (Array.getElem?_eq_some_iff.1 HXB2.out).1).trans HXB2.out)
  clear hb3
  go_wp2_with (refine load_msg HSB.out rfl (.tmp 4) rfl (w.heap.size + 1) rfl HXB3.out ?_)
  refine (HPb.out _).mono ?_
  rintro e w4 ⟨rfl, hb4⟩
  have HB4 := Lib.hid (Bl.step HB3.out hb4)
  have HXB4 := Lib.hid ((hb4.block _ (Array.getElem?_eq_some_iff.1 HXB3.out).1).trans HXB3.out)
  clear hb4
  go_wp2_with (go_at_call 12; refine (num18_any _ _).mono ?_; rintro e w' ⟨rfl, rfl⟩)
  go_ret
  exact ⟨rfl, HB4.out⟩
set_option maxHeartbeats 4000000 in
theorem back_ny (na : mayM a = false) (nb : mayM b = true) : Calls Tryd.prog 7 #[.agg (mcells a), .agg (mcells b), .agg (dcells d A c)] w (fun e w' => e = .returned (.bool true) ∧ Below w.heap.size w w') := by
  have hbl : Below w.heap.size w (((w.alloc (.cells (mcells a) 27)).alloc (.cells (mcells b) 27)).alloc (.cells (dcells d A c) 53)) := (((Below.refl _ _).alloc (Nat.le_refl _) _).alloc (by simp) _).alloc (by simp; omega) _
  have HXA1 : Hid ((((w.alloc (.cells (mcells a) 27)).alloc (.cells (mcells b) 27)).alloc (.cells (dcells d A c) 53)).heap[w.heap.size]? = some (.cells (mcells a) 27 (0, 0))) := by
    show _ = _
    rw [heap_alloc_old _ _ (by simp; omega)]
    exact heap_alloc2_old w _ _
  have HXB1 : Hid ((((w.alloc (.cells (mcells a) 27)).alloc (.cells (mcells b) 27)).alloc (.cells (dcells d A c) 53)).heap[w.heap.size + 1]? = some (.cells (mcells b) 27 (0, 0))) := by
    show _ = _
    rw [heap_alloc_old _ _ (by simp)]
    exact heap_alloc2_new w _ _
  have HXD1 : Hid ((((w.alloc (.cells (mcells a) 27)).alloc (.cells (mcells b) 27)).alloc (.cells (dcells d A c) 53)).heap[w.heap.size + 1 + 1]? = some (.cells (dcells d A c) 53 (0, 0))) := by
    show _ = _
    have := heap_alloc_new ((w.alloc (.cells (mcells a) 27)).alloc (.cells (mcells b) 27)) (.cells (dcells d A c) 53)
    simpa using this
  have HB1 := Lib.hid hbl
  have HSA := Lib.hid (mcells_size ha)
  have HSB := Lib.hid (mcells_size hb)
  have HPa := Lib.hid (fun u => msg_put_no a ha na u)
  have HPb := Lib.hid (fun u => msg_put_yes b hb nb u)
  clear hbl
  generalize mcells a = ma at *
  generalize mcells b = mb at *
  generalize putB b = PBb at *
  obtain ⟨dc, hdc⟩ : ∃ dc, dc = dcells d A c := ⟨_, rfl⟩
  rw [← hdc] at HXA1 HXB1 HXD1 HB1 ⊢
  have HDC := Lib.hid hdc
  clear hdc
  go_enter Tryd.func7, Tryd.ntmps7
  go_wp2_with fail
  generalize ((w.alloc (.cells ma 27)).alloc (.cells mb 27)).alloc (.cells dc 53) = w1 at *
  refine (known18_any _).mono ?_
  rintro e w2 ⟨rfl, hb2⟩
  have HB2 := Lib.hid (Bl.step HB1.out hb2)
  have HXA2 := Lib.hid ((hb2.block _ (Array.getElem?_eq_some_iff.1 HXA1.out).1).trans HXA1.out)
  have HXB2 := Lib.hid ((hb2.block _ (Array.getElem?_eq_some_iff.1 HXB1.out).1).trans HXB1.out)
  have HXD2 := Lib.hid ((hb2.block _ (Array.getElem?_eq_some_iff.1 HXD1.out).1).trans HXD1.out)
  clear hb2 HB1 HXA1 HXB1 HXD1
  go_wp2_with (refine load_msg HSA.out rfl (.tmp 3) rfl w.heap.size rfl HXA2.out ?_)
  refine (HPa.out _).mono ?_
  rintro e w3 ⟨rfl, hb3⟩
  have HB3 := Lib.hid (Bl.step HB2.out hb3)
  have HXB3 := Lib.hid ((hb3.block _ (Array.getElem?_eq_some_iff.1 HXB2.out).1).trans HXB2.out)
  clear hb3
  go_wp2_with (refine load_msg HSB.out rfl (.tmp 4) rfl (w.heap.size + 1) rfl HXB3.out ?_)
  refine (HPb.out _).mono ?_
  rintro e w4 ⟨gpb, cpb, rfl, _, hb4⟩
  have HB4 := Lib.hid (Bl.step HB3.out hb4)
  clear hb4
  go_wp2_with (go_at_call 12; refine (num18_any _ _).mono ?_; rintro e w' ⟨rfl, rfl⟩)
  go_ret
  exact ⟨rfl, HB4.out⟩
set_option maxHeartbeats 4000000 in
theorem back_yn (na : mayM a = true) (nb : mayM b = false) : Calls Tryd.prog 7 #[.agg (mcells a), .agg (mcells b), .agg (dcells d A c)] w (fun e w' => e = .returned (.bool true) ∧ Below w.heap.size w w') := by
  have hbl : Below w.heap.size w (((w.alloc (.cells (mcells a) 27)).alloc (.cells (mcells b) 27)).alloc (.cells (dcells d A c) 53)) := (((Below.refl _ _).alloc (Nat.le_refl _) _).alloc (by simp) _).alloc (by simp; omega) _
  have HXA1 : Hid ((((w.alloc (.cells (mcells a) 27)).alloc (.cells (mcells b) 27)).alloc (.cells (dcells d A c) 53)).heap[w.heap.size]? = some (.cells (mcells a) 27 (0, 0))) := by
    show _ = _
    rw [heap_alloc_old _ _ (by simp; omega)]
    exact heap_alloc2_old w _ _
  have HXB1 : Hid ((((w.alloc (.cells (mcells a) 27)).alloc (.cells (mcells b) 27)).alloc (.cells (dcells d A c) 53)).heap[w.heap.size + 1]? = some (.cells (mcells b) 27 (0, 0))) := by
    show _ = _
    rw [heap_alloc_old _ _ (by simp)]
    exact heap_alloc2_new w _ _
  have HXD1 : Hid ((((w.alloc (.cells (mcells a) 27)).alloc (.cells (mcells b) 27)).alloc (.cells (dcells d A c) 53)).heap[w.heap.size + 1 + 1]? = some (.cells (dcells d A c) 53 (0, 0))) := by
    show _ = _
    have := heap_alloc_new ((w.alloc (.cells (mcells a) 27)).alloc (.cells (mcells b) 27)) (.cells (dcells d A c) 53)
    simpa using this
  have HB1 := Lib.hid hbl
  have HSA := Lib.hid (mcells_size ha)
  have HSB := Lib.hid (mcells_size hb)
  have HPa := Lib.hid (fun u => msg_put_yes a ha na u)
  have HPb := Lib.hid (fun u => msg_put_no b hb nb u)
  clear hbl
  generalize mcells a = ma at *
  generalize mcells b = mb at *
  generalize putB a = PBa at *
  obtain ⟨dc, hdc⟩ : ∃ dc, dc = dcells d A c := ⟨_, rfl⟩
  rw [← hdc] at HXA1 HXB1 HXD1 HB1 ⊢
  have HDC := Lib.hid hdc
  clear hdc
  go_enter Tryd.func7, Tryd.ntmps7
  go_wp2_with fail
  generalize ((w.alloc (.cells ma 27)).alloc (.cells mb 27)).alloc (.cells dc 53) = w1 at *
  refine (known18_any _).mono ?_
  rintro e w2 ⟨rfl, hb2⟩
  have HB2 := Lib.hid (Bl.step HB1.out hb2)
  have HXA2 := Lib.hid ((hb2.block _ (Array.getElem?_eq_some_iff.1 HXA1.out).1).trans HXA1.out)
  have HXB2 := Lib.hid ((hb2.block _ (Array.getElem?_eq_some_iff.1 HXB1.out).1).trans HXB1.out)
  have HXD2 := Lib.hid ((hb2.block _ (Array.getElem?_eq_some_iff.1 HXD1.out).1).trans HXD1.out)
  clear hb2 HB1 HXA1 HXB1 HXD1
  go_wp2_with (refine load_msg HSA.out rfl (.tmp 3) rfl w.heap.size rfl HXA2.out ?_)
  refine (HPa.out _).mono ?_
  rintro e w3 ⟨gpa, cpa, rfl, hopa, hb3⟩
  have HB3 := Lib.hid (Bl.step HB2.out hb3)
  have HXA3 := Lib.hid ((hb3.block _ (Array.getElem?_eq_some_iff.1 HXA2.out).1).trans HXA2.out)
  have HXB3 := Lib.hid ((hb3.block _ (Array.getElem?_eq_some_iff.1 HXB2.out).1).trans HXB2.out)
  have HXD3 := Lib.hid ((hb3.block _ (Array.getElem?_eq_some_iff.1 HXD2.out).1).trans HXD2.out)
  go_wp2_with (refine load_msg HSB.out rfl (.tmp 4) rfl (w.heap.size + 1) rfl HXB3.out ?_)
  refine (HPb.out _).mono ?_
  rintro e w4 ⟨rfl, hb4⟩
  have HB4 := Lib.hid (Bl.step HB3.out hb4)
  have HXB4 := Lib.hid ((hb4.block _ (Array.getElem?_eq_some_iff.1 HXB3.out).1).trans HXB3.out)
  clear hb4
  go_wp2_with (go_at_call 12; refine (num18_any _ _).mono ?_; rintro e w' ⟨rfl, rfl⟩)
  go_ret
  exact ⟨rfl, HB4.out⟩
set_option maxHeartbeats 32000000 in
theorem back_yy (na : mayM a = true) (nb : mayM b = true) : Calls Tryd.prog 7 #[.agg (mcells a), .agg (mcells b), .agg (dcells d A c)] w (fun e w' => e = .returned (.bool true) ∧ Below w.heap.size w w') := by
  have hbl : Below w.heap.size w (((w.alloc (.cells (mcells a) 27)).alloc (.cells (mcells b) 27)).alloc (.cells (dcells d A c) 53)) := (((Below.refl _ _).alloc (Nat.le_refl _) _).alloc (by simp) _).alloc (by simp; omega) _
  have HXA1 : Hid ((((w.alloc (.cells (mcells a) 27)).alloc (.cells (mcells b) 27)).alloc (.cells (dcells d A c) 53)).heap[w.heap.size]? = some (.cells (mcells a) 27 (0, 0))) := by
    show _ = _
    rw [heap_alloc_old _ _ (by simp; omega)]
    exact heap_alloc2_old w _ _
  have HXB1 : Hid ((((w.alloc (.cells (mcells a) 27)).alloc (.cells (mcells b) 27)).alloc (.cells (dcells d A c) 53)).heap[w.heap.size + 1]? = some (.cells (mcells b) 27 (0, 0))) := by
    show _ = _
    rw [heap_alloc_old _ _ (by simp)]
    exact heap_alloc2_new w _ _
  have HXD1 : Hid ((((w.alloc (.cells (mcells a) 27)).alloc (.cells (mcells b) 27)).alloc (.cells (dcells d A c) 53)).heap[w.heap.size + 1 + 1]? = some (.cells (dcells d A c) 53 (0, 0))) := by
    show _ = _
    have := heap_alloc_new ((w.alloc (.cells (mcells a) 27)).alloc (.cells (mcells b) 27)) (.cells (dcells d A c) 53)
    simpa using this
  have HB1 := Lib.hid hbl
  have HSA := Lib.hid (mcells_size ha)
  have HSB := Lib.hid (mcells_size hb)
  have HPa := Lib.hid (fun u => msg_put_yes a ha na u)
  have HPb := Lib.hid (fun u => msg_put_yes b hb nb u)
  have HALA := Lib.hid (mcells_all a)
  have hla := putB_len ha na
  have hlb := putB_len hb nb
  have hpa := putB_pos a
  have HRV := Lib.hid (readV_some hla (readM_put ha na))
  have HEQ := Lib.hid (fun u => msg_eq u a b ha hb)
  have HEA := Lib.hid (fun u => msg_eq u a a ha ha)
  rw [msgB_self] at HEA
  obtain ⟨t, ht⟩ : ∃ t, msgB a b = t := ⟨_, rfl⟩
  have hinj := putB_inj ha hb na nb
  have HQB : Hid ((putB a == putB b) = t) := Lib.hid (by
    rw [← ht, Bool.eq_iff_iff, msgB_iff, beq_iff_eq]
    exact hinj)
  have HDB : Hid (mayD { d with body := putB a } = true → mayD { d with body := putB b } = true ∧ ((putD { d with body := putB a } == putD { d with body := putB b }) = t)) := Lib.hid (fun h => by
    have h2 := mayD_body h hpa hlb
    refine ⟨h2, ?_⟩
    rw [← ht, Bool.eq_iff_iff, msgB_iff, beq_iff_eq, putD_inj h h2]
    exact hinj)
  rw [ht] at HEQ
  clear ht hinj na nb
  generalize putB a = X at *
  generalize putB b = Y at *
  clear hbl
  generalize mcells a = ma at *
  generalize mcells b = mb at *
  obtain ⟨dc, hdc⟩ : ∃ dc, dc = dcells d A c := ⟨_, rfl⟩
  rw [← hdc] at HXA1 HXB1 HXD1 HB1 ⊢
  have HDC := Lib.hid hdc
  clear hdc
  go_enter Tryd.func7, Tryd.ntmps7
  go_wp2_with fail
  generalize ((w.alloc (.cells ma 27)).alloc (.cells mb 27)).alloc (.cells dc 53) = w1 at *
  refine (known18_any _).mono ?_
  rintro e w2 ⟨rfl, hb2⟩
  have HB2 := Lib.hid (Bl.step HB1.out hb2)
  have HXA2 := Lib.hid ((hb2.block _ (Array.getElem?_eq_some_iff.1 HXA1.out).1).trans HXA1.out)
  have HXB2 := Lib.hid ((hb2.block _ (Array.getElem?_eq_some_iff.1 HXB1.out).1).trans HXB1.out)
  have HXD2 := Lib.hid ((hb2.block _ (Array.getElem?_eq_some_iff.1 HXD1.out).1).trans HXD1.out)
  clear hb2 HB1 HXA1 HXB1 HXD1
  go_wp2_with (refine load_msg HSA.out rfl (.tmp 3) rfl w.heap.size rfl HXA2.out ?_)
  have hd2 : w.heap.size + 1 + 1 < w2.heap.size := (Array.getElem?_eq_some_iff.1 HXD2.out).1
  refine (HPa.out _).mono ?_
  rintro e w3 ⟨gpa, cpa, rfl, hopa, hb3⟩
  have HB3 := Lib.hid (Bl.step HB2.out hb3)
  have HXA3 := Lib.hid ((hb3.block _ (Array.getElem?_eq_some_iff.1 HXA2.out).1).trans HXA2.out)
  have HXB3 := Lib.hid ((hb3.block _ (Array.getElem?_eq_some_iff.1 HXB2.out).1).trans HXB2.out)
  have HXD3 := Lib.hid ((hb3.block _ (Array.getElem?_eq_some_iff.1 HXD2.out).1).trans HXD2.out)
  have hs3 : w2.heap.size ≤ w3.heap.size := hb3.size
  have HOX3 := Lib.hid (own_at hopa)
  have hgpa : w2.heap.size ≤ gpa := (hopa.lt gpa rfl).1
  clear hopa hb3
  go_wp2_with (refine load_msg HSB.out rfl (.tmp 4) rfl (w.heap.size + 1) rfl HXB3.out ?_)
  refine (HPb.out _).mono ?_
  rintro e w4 ⟨gpb, cpb, rfl, hopb, hb4⟩
  have HB4 := Lib.hid (Bl.step HB3.out hb4)
  have HXA4 := Lib.hid ((hb4.block _ (Array.getElem?_eq_some_iff.1 HXA3.out).1).trans HXA3.out)
  have HXB4 := Lib.hid ((hb4.block _ (Array.getElem?_eq_some_iff.1 HXB3.out).1).trans HXB3.out)
  have HXD4 := Lib.hid ((hb4.block _ (Array.getElem?_eq_some_iff.1 HXD3.out).1).trans HXD3.out)
  have HOX4 := Lib.hid (HOX3.out.mono hb4)
  have HOY4 := Lib.hid (own_at hopb)
  have hgpb : w3.heap.size ≤ gpb := (hopb.lt gpb rfl).1
  clear hopb hb4 HB2 HB3 HXA2 HXA3 HXB2 HXB3 HXD2 HXD3 HOX3
  go_wp2_with (go_at_call 12; refine (num18_any _ _).mono ?_; rintro e w' ⟨rfl, rfl⟩)
  refine wp_region_seq (fun _ => False) [] [(0, true), (1, true), (2, true), (3, true), (4, true), (5, true), (6, true), (7, true), (8, true)] (by kernel_rfl) (by kernel_rfl) (fun _ _ d _ _ h => by cases d <;> exact h) rfl (by kernel_rfl) ?_
  have UXX := Lib.hid (Up.bytes (T := fun _ => False) (w := w4.drew) (show At w4.drew (some ⟨gpa, 0, none⟩) (bv X) from HOX4.out) (fun _ _ h => h))
  have UYY := Lib.hid (Up.bytes (T := fun _ => False) (w := w4.drew) (show At w4.drew (some ⟨gpb, 0, none⟩) (bv Y) from HOY4.out) (fun _ _ h => h))
  have U1 : Up (fun _ => False) w4.drew (fun u => (convert 28 9 (.slice (some ⟨gpa, 0, none⟩) X.length cpa)).run Tryd.prog u = .ok (.string ⟨X.toArray⟩) u) := UXX.out.map (fun u hu => convert_at u _ cpa X hu)
  have U2 : Up (fun _ => False) w4.drew (fun u => (convert 28 9 (.slice (some ⟨gpb, 0, none⟩) Y.length cpb)).run Tryd.prog u = .ok (.string ⟨Y.toArray⟩) u) := UYY.out.map (fun u hu => convert_at u _ cpb Y hu)
  have ux : w4.drew.heap[w.heap.size]? = some (.cells ma 27 (0, 0)) := HXA4.out
  have UA := Lib.hid (Up.blk (T := fun _ => False) ux (fun h => h))
  have uy : w4.drew.heap[w.heap.size + 1]? = some (.cells mb 27 (0, 0)) := HXB4.out
  have UB := Lib.hid (Up.blk (T := fun _ => False) uy (fun h => h))
  have ud : w4.drew.heap[w.heap.size + 1 + 1]? = some (.cells dc 53 (0, 0)) := HXD4.out
  have HXD5 := Lib.hid ud
  have HB5 : Hid (Below w.heap.size w w4.drew) := HB4.out.drew
  have hgd : w.heap.size + 1 + 1 < w4.drew.heap.size := (Array.getElem?_eq_some_iff.1 ud).1
  clear ux uy ud HXA4 HXB4 HXD4 HB4 HOX4 HOY4
  generalize w4.drew = w5 at *
  refine seq_at (some 37) (v := ?_) rfl (by kernel_rfl) (by kernel_rfl) ?_ ?_
  rotate_left
  · intro w' hw'
    go_simp
    try with_reducible rfl
  simp only [Act.put, List.setIfInBounds_toArray, List.set_cons_zero, List.set_cons_succ]
  refine seq_at (some 38) (v := ?_) rfl (by kernel_rfl) (by kernel_rfl) ?_ ?_
  rotate_left
  · intro w' hw'
    obtain q0 := U1 w' hw'
    go_simp
    try with_reducible rfl
  simp only [Act.put, List.setIfInBounds_toArray, List.set_cons_zero, List.set_cons_succ]
  refine seq_at (some 39) (v := ?_) rfl (by kernel_rfl) (by kernel_rfl) ?_ ?_
  rotate_left
  · intro w' hw'
    go_simp
    try with_reducible rfl
  simp only [Act.put, List.setIfInBounds_toArray, List.set_cons_zero, List.set_cons_succ]
  refine seq_at (some 40) (v := ?_) rfl (by kernel_rfl) (by kernel_rfl) ?_ ?_
  rotate_left
  · intro w' hw'
    obtain q0 := U2 w' hw'
    go_simp
    try with_reducible rfl
  simp only [Act.put, List.setIfInBounds_toArray, List.set_cons_zero, List.set_cons_succ]
  clear U1 U2
  have qb1 := HQB.out
  have qb2 : decide (X = Y) = t := by rw [← HQB.out, Bool.eq_iff_iff]; simp
  refine seq_at (some 41) (v := ?_) rfl (by kernel_rfl) (by kernel_rfl) ?_ ?_
  rotate_left
  · intro w' hw'
    go_simp
    try with_reducible rfl
  simp only [Act.put, List.setIfInBounds_toArray, List.set_cons_zero, List.set_cons_succ]
  clear qb1 qb2
  refine seq_load_msg (some 42) rfl (by kernel_rfl) (by kernel_rfl) (.tmp 3) (by kernel_rfl) w.heap.size ma rfl HSA.out UA.out ?_
  simp only [Act.put, List.setIfInBounds_toArray, List.set_cons_zero, List.set_cons_succ]
  refine seq_load_msg (some 43) rfl (by kernel_rfl) (by kernel_rfl) (.tmp 4) (by kernel_rfl) (w.heap.size + 1) mb rfl HSB.out UB.out ?_
  simp only [Act.put, List.setIfInBounds_toArray, List.set_cons_zero, List.set_cons_succ]
  have heq := HEQ.out
  refine seq_at (some 44) (v := ?_) rfl (by kernel_rfl) (by kernel_rfl) ?_ ?_
  rotate_left
  · intro w' hw'
    go_simp
    try with_reducible rfl
  simp only [Act.put, List.setIfInBounds_toArray, List.set_cons_zero, List.set_cons_succ]
  refine seq_at (some 45) (v := ?_) rfl (by kernel_rfl) (by kernel_rfl) ?_ ?_
  rotate_left
  · intro w' hw'
    go_simp
    try with_reducible rfl
  simp only [Act.put, List.setIfInBounds_toArray, List.set_cons_zero, List.set_cons_succ]
  refine seq_nil ?_
  clear heq
  have HXA5 : Hid (w5.heap[w.heap.size]? = some (.cells ma 27 (0, 0))) := UA.out _ (Ex.refl _ _)
  have HXB5 : Hid (w5.heap[w.heap.size + 1]? = some (.cells mb 27 (0, 0))) := UB.out _ (Ex.refl _ _)
  have HOX5 : Hid (At w5 (some ⟨gpa, 0, none⟩) (bv X)) := UXX.out _ (Ex.refl _ _)
  have HOY5 : Hid (At w5 (some ⟨gpb, 0, none⟩) (bv Y)) := UYY.out _ (Ex.refl _ _)
  clear UA UB UXX UYY
  have q5 := (dg_cells (d := d) (A := A) (c := c) (by rw [← HDC.out]; exact HXD5.out)).2.2.2.2.2
  have f5 := dg_free 5 HXD5.out
  have hst := grown_set w5 (w.heap.size + 1 + 1) 5 (.slice (some ⟨gpa, 0, none⟩) X.length cpa)
  have HXD6 : Hid (_ = some (Obj.cells (dcells { d with body := X } (some ⟨gpa, 0, none⟩) cpa) 53 (0, 0))) := Lib.hid (dg_set 5 (.slice (some ⟨gpa, 0, none⟩) X.length cpa) HXD5.out (by rw [HDC.out]; rfl))
  have HXA6 := Lib.hid ((hst.block _ (Array.getElem?_eq_some_iff.1 HXA5.out).1 (fun e => by injection e with e; omega)).trans HXA5.out)
  have HXB6 := Lib.hid ((hst.block _ (Array.getElem?_eq_some_iff.1 HXB5.out).1 (fun e => by injection e with e; omega)).trans HXB5.out)
  have HOX6 := Lib.hid (HOX5.out.grown hst (fun ad e => by injection e with e; rw [← e]; intro h; injection h with h; have : gpa = w.heap.size + 1 + 1 := h; omega))
  have HOY6 := Lib.hid (HOY5.out.grown hst (fun ad e => by injection e with e; rw [← e]; intro h; injection h with h; have : gpb = w.heap.size + 1 + 1 := h; omega))
  have HB6 := Lib.hid (Bl.grown HB5.out hst (fun k hk => by injection hk with hk; omega))
  clear hst HXA5 HXB5 HOX5 HOY5 HB5 HXD5
  go_upto_region 10 with (fail)
  clear q5 f5
  generalize w5.setCell ⟨w.heap.size + 1 + 1, 5, none⟩ (.slice (some ⟨gpa, 0, none⟩) X.length cpa) = w6 at *
  have hd6 : w.heap.size + 1 + 1 < w6.heap.size := (Array.getElem?_eq_some_iff.1 HXD6.out).1
  have HMP := Lib.hid (fun u => mayD_walk { d with body := X } (some ⟨gpa, 0, none⟩) cpa u (by show X.length ≤ _; omega))
  have HMP2 := Lib.hid (fun u => mayD_walk { d with body := Y } (some ⟨gpb, 0, none⟩) cpb u (by show Y.length ≤ _; omega))
  cases hyy : mayD { d with body := X } with
  | false =>
    have HPN := Lib.hid (fun u => putD_no { d with body := X } (some ⟨gpa, 0, none⟩) cpa u HMP.out hyy)
    have HMR := Lib.hid (fun u => refMayD_walk { d with body := X } (some ⟨gpa, 0, none⟩) cpa u (by show X.length ≤ _; omega))
    rw [hyy] at HMR
    clear hyy HMP HMP2 HDB
    unfold dcells at HMR
    go_wp2_with (refine load_dg (dcells_size _ _ _) rfl (.tmp 5) rfl (w.heap.size + 1 + 1) rfl HXD6.out ?_)
    refine (HPN.out _).mono ?_
    rintro e w7 ⟨rfl, hb7⟩
    have HB7 := Lib.hid (Bl.step HB6.out hb7)
    obtain ⟨q0, q1, q2, q3, q4, q5⟩ := dg_cells ((hb7.block _ hd6).trans HXD6.out)
    dsimp only at q0 q1 q2 q3 q4 q5 HMR
    clear hb7
    by_cases hs1 : d.sq < 1
    · go_wp2_with (go_at_call 12; refine (num18_any _ _).mono ?_; rintro e w' ⟨rfl, rfl⟩)
      go_ret
      exact ⟨rfl, HB7.out⟩
    · go_wp2_with (go_at_call 12; refine (num18_any _ _).mono ?_; rintro e w' ⟨rfl, rfl⟩)
      refine (HMR.out _).mono ?_
      rintro e w8 ⟨rfl, hb8⟩
      go_wp2_with fail
      go_ret
      exact ⟨rfl, Bl.step HB7.out hb8⟩
  | true =>
    obtain ⟨hy2, hqd⟩ := HDB.out hyy
    have HQD := Lib.hid hqd
    have HPY := Lib.hid (fun u h => putD_yes { d with body := X } (some ⟨gpa, 0, none⟩) cpa u HMP.out hyy h)
    have HPY2 := Lib.hid (fun u h => putD_yes { d with body := Y } (some ⟨gpb, 0, none⟩) cpb u HMP2.out hy2 h)
    have hzl := putD_len hyy
    have HAN := Lib.hid (answerD_put hyy (by omega))
    clear hyy hy2 hqd HMP HMP2 HDB
    generalize putD { d with body := X } = PZ at *
    generalize putD { d with body := Y } = PW at *
    go_wp2_with (refine load_dg (dcells_size _ _ _) rfl (.tmp 5) rfl (w.heap.size + 1 + 1) rfl HXD6.out ?_)
    refine (HPY.out _ HOX6.out).mono ?_
    rintro e w7 ⟨gz, cz, rfl, hoz, hb7⟩
    have hgz : w6.heap.size ≤ gz := (hoz.lt gz rfl).1
    have HB7 := Lib.hid (Bl.step HB6.out hb7)
    have HXD7 := Lib.hid ((hb7.block _ hd6).trans HXD6.out)
    have HXA7 := Lib.hid ((hb7.block _ (Array.getElem?_eq_some_iff.1 HXA6.out).1).trans HXA6.out)
    have HXB7 := Lib.hid ((hb7.block _ (Array.getElem?_eq_some_iff.1 HXB6.out).1).trans HXB6.out)
    have HOY7 := Lib.hid (HOY6.out.mono hb7)
    have HOZ7 := Lib.hid (own_at hoz)
    have hd7 : w.heap.size + 1 + 1 < w7.heap.size := (Array.getElem?_eq_some_iff.1 HXD7.out).1
    clear hoz hb7 HB6 HXD6 HXA6 HXB6 HOX6 HOY6 HPY
    have q5 := (dg_cells HXD7.out).2.2.2.2.2
    have f5 := dg_free 5 HXD7.out
    have hst := grown_set w7 (w.heap.size + 1 + 1) 5 (.slice (some ⟨gpb, 0, none⟩) Y.length cpb)
    have HXD8 : Hid (_ = some (Obj.cells (dcells { d with body := Y } (some ⟨gpb, 0, none⟩) cpb) 53 (0, 0))) := Lib.hid (dg_set 5 (.slice (some ⟨gpb, 0, none⟩) Y.length cpb) HXD7.out rfl)
    have HXA8 := Lib.hid ((hst.block _ (Array.getElem?_eq_some_iff.1 HXA7.out).1 (fun e => by injection e with e; omega)).trans HXA7.out)
    have HXB8 := Lib.hid ((hst.block _ (Array.getElem?_eq_some_iff.1 HXB7.out).1 (fun e => by injection e with e; omega)).trans HXB7.out)
    have HOY8 := Lib.hid (HOY7.out.grown hst (fun ad e => by injection e with e; rw [← e]; intro h; injection h with h; have : gpb = w.heap.size + 1 + 1 := h; omega))
    have HOZ8 := Lib.hid (HOZ7.out.grown hst (fun ad e => by injection e with e; rw [← e]; intro h; injection h with h; have : gz = w.heap.size + 1 + 1 := h; omega))
    have HB8 := Lib.hid (Bl.grown HB7.out hst (fun k hk => by injection hk with hk; omega))
    clear hst HXA7 HXB7 HOY7 HOZ7 HB7 HXD7
    dsimp only at q5
    go_upto_region 14 with (go_at_call 12; refine (num18_any _ _).mono ?_; rintro e w' ⟨rfl, rfl⟩)
    clear q5 f5
    generalize w7.setCell ⟨w.heap.size + 1 + 1, 5, none⟩ (.slice (some ⟨gpb, 0, none⟩) Y.length cpb) = w8 at *
    go_wp2_with (refine load_dg (dcells_size _ _ _) rfl (.tmp 5) rfl (w.heap.size + 1 + 1) rfl HXD8.out ?_)
    refine (HPY2.out _ HOY8.out).mono ?_
    rintro e w9 ⟨gw, cw, rfl, how, hb9⟩
    have HB9 := Lib.hid (Bl.step HB8.out hb9)
    have HXA9 := Lib.hid ((hb9.block _ (Array.getElem?_eq_some_iff.1 HXA8.out).1).trans HXA8.out)
    have HXB9 := Lib.hid ((hb9.block _ (Array.getElem?_eq_some_iff.1 HXB8.out).1).trans HXB8.out)
    have HOZ9 := Lib.hid (HOZ8.out.mono hb9)
    have HOW9 := Lib.hid (own_at how)
    clear how hb9 HB8 HXD8 HXA8 HXB8 HOY8 HOZ8 HPY2
    go_wp2_with fail
    refine (msg_readD (some ⟨gz, 0, none⟩) cz PZ _ HOZ9.out (by omega)).mono ?_
    rw [HAN.out]
    rintro e w10 ⟨Ao, co, rfl, hAo, _, hb10⟩
    dsimp only at hAo ⊢
    have HB10 := Lib.hid (Bl.step HB9.out hb10)
    have HXA10 := Lib.hid ((hb10.block _ (Array.getElem?_eq_some_iff.1 HXA9.out).1).trans HXA9.out)
    have HXB10 := Lib.hid ((hb10.block _ (Array.getElem?_eq_some_iff.1 HXB9.out).1).trans HXB9.out)
    have HOZ10 := Lib.hid (HOZ9.out.mono hb10)
    have HOW10 := Lib.hid (HOW9.out.mono hb10)
    have HAO10 := Lib.hid hAo
    clear hAo hb10 HB9 HXA9 HXB9 HOZ9 HOW9
    go_upto_region 16 with (refine store_dg_new (dcells_size { d with body := X } Ao co) (dcells_all _ _ _) rfl (.tmp 15) (.tmp 74) rfl rfl rfl ?_)
    have hba := (Below.refl w10.heap.size w10).alloc (Nat.le_refl _) (.cells (dcells { d with body := X } Ao co) 53)
    have HB11 := Lib.hid (Bl.step HB10.out hba)
    have HXA11 := Lib.hid ((hba.block _ (Array.getElem?_eq_some_iff.1 HXA10.out).1).trans HXA10.out)
    have HXB11 := Lib.hid ((hba.block _ (Array.getElem?_eq_some_iff.1 HXB10.out).1).trans HXB10.out)
    have HOZ11 := Lib.hid (HOZ10.out.mono hba)
    have HOW11 := Lib.hid (HOW10.out.mono hba)
    have HAO11 := Lib.hid (HAO10.out.mono hba)
    have q5 := (dg_cells (heap_alloc_new w10 (.cells (dcells { d with body := X } Ao co) 53))).2.2.2.2.2
    dsimp only at q5
    clear hba HB10 HXA10 HXB10 HOZ10 HOW10 HAO10
    generalize w10.alloc (.cells (dcells { d with body := X } Ao co) 53) = w11 at *
    generalize w10.heap.size = b15 at *
    go_wp2_with fail
    refine (msg_read Ao co X _ HAO11.out (by omega)).mono ?_
    rw [HRV.out]
    rintro e w12 ⟨rfl, hb12⟩
    have HB12 := Lib.hid (Bl.step HB11.out hb12)
    have HXA12 := Lib.hid ((hb12.block _ (Array.getElem?_eq_some_iff.1 HXA11.out).1).trans HXA11.out)
    have HXB12 := Lib.hid ((hb12.block _ (Array.getElem?_eq_some_iff.1 HXB11.out).1).trans HXB11.out)
    have HOZ12 := Lib.hid (HOZ11.out.mono hb12)
    have HOW12 := Lib.hid (HOW11.out.mono hb12)
    clear hb12 HB11 HXA11 HXB11 HOZ11 HOW11 HAO11 q5
    go_upto_region 17 with (refine store_new HSA.out HALA.out rfl (.tmp 17) (.tmp 80) rfl rfl rfl ?_)
    have hba := (Below.refl w12.heap.size w12).alloc (Nat.le_refl _) (.cells ma 27)
    have HB13 := Lib.hid (Bl.step HB12.out hba).drew
    have HXA13 := Lib.hid ((hba.block _ (Array.getElem?_eq_some_iff.1 HXA12.out).1).trans HXA12.out)
    have HXB13 := Lib.hid ((hba.block _ (Array.getElem?_eq_some_iff.1 HXB12.out).1).trans HXB12.out)
    have HOZ13 := Lib.hid (HOZ12.out.mono hba)
    have HOW13 := Lib.hid (HOW12.out.mono hba)
    have HXM13 := Lib.hid (heap_alloc_new w12 (.cells ma 27))
    clear hba HB12 HXA12 HXB12 HOZ12 HOW12
    generalize w12.alloc (.cells ma 27) = w13 at *
    generalize w12.heap.size = b17 at *
    refine wp_region_seq (fun _ => False) [] [(0, true), (2, true), (5, true), (1, false), (3, false), (4, true), (6, false), (7, true), (8, true), (9, true), (10, true), (11, true), (12, true), (13, true), (14, true), (15, true), (16, true), (17, true), (18, true), (19, true), (20, true), (21, true), (22, true), (23, true), (24, true), (25, true), (26, true), (27, true), (28, true), (29, true), (30, true)] (by kernel_rfl) (by kernel_rfl) (fun _ _ d _ _ h => by cases d <;> exact h) rfl (by kernel_rfl) ?_
    have U1 : Up (fun _ => False) w13.drew (fun u => (convert 28 9 (.slice (some ⟨gz, 0, none⟩) PZ.length cz)).run Tryd.prog u = .ok (.string ⟨PZ.toArray⟩) u) := (Up.bytes (T := fun _ => False) (w := w13.drew) (show At w13.drew (some ⟨gz, 0, none⟩) (bv PZ) from HOZ13.out) (fun _ _ h => h)).map (fun u hu => convert_at u _ cz PZ hu)
    have U2 : Up (fun _ => False) w13.drew (fun u => (convert 28 9 (.slice (some ⟨gw, 0, none⟩) PW.length cw)).run Tryd.prog u = .ok (.string ⟨PW.toArray⟩) u) := (Up.bytes (T := fun _ => False) (w := w13.drew) (show At w13.drew (some ⟨gw, 0, none⟩) (bv PW) from HOW13.out) (fun _ _ h => h)).map (fun u hu => convert_at u _ cw PW hu)
    have HU1 := Lib.hid U1
    have HU2 := Lib.hid U2
    have ux : w13.drew.heap[w.heap.size]? = some (.cells ma 27 (0, 0)) := HXA13.out
    have UA := Lib.hid (Up.blk (T := fun _ => False) ux (fun h => h))
    have uy : w13.drew.heap[w.heap.size + 1]? = some (.cells mb 27 (0, 0)) := HXB13.out
    have UB := Lib.hid (Up.blk (T := fun _ => False) uy (fun h => h))
    have um : w13.drew.heap[b17]? = some (.cells ma 27 (0, 0)) := HXM13.out
    have UM := Lib.hid (Up.blk (T := fun _ => False) um (fun h => h))
    clear ux uy um U1 U2 HXA13 HXB13 HXM13 HOZ13 HOW13
    generalize w13.drew = wd at *
    have hwz : IntKind.i64.wrap 0 = 0 := rfl
    have hz5 : decide ((PZ.length : Int) ≤ 512) = true := by simp; omega
    refine seq_at (some 82) (v := ?_) rfl (by kernel_rfl) (by kernel_rfl) ?_ ?_
    rotate_left
    · intro w' hw'
      go_simp
      try with_reducible rfl
    simp only [Act.put, List.setIfInBounds_toArray, List.set_cons_zero, List.set_cons_succ]
    refine seq_at (some 84) (v := ?_) rfl (by kernel_rfl) (by kernel_rfl) ?_ ?_
    rotate_left
    · intro w' hw'
      go_simp
      try with_reducible rfl
    simp only [Act.put, List.setIfInBounds_toArray, List.set_cons_zero, List.set_cons_succ]
    refine seq_at (some 87) (v := ?_) rfl (by kernel_rfl) (by kernel_rfl) ?_ ?_
    rotate_left
    · intro w' hw'
      go_simp
      try with_reducible rfl
    simp only [Act.put, List.setIfInBounds_toArray, List.set_cons_zero, List.set_cons_succ]
    refine seq_eff rfl (by kernel_rfl) (fun K hK => ?_)
    go_simp
    refine (num18_any _ _).mono ?_
    rintro e w' ⟨rfl, rfl⟩
    refine hK.out _ _ (.inl (Ex.refl _ _)) ?_
    try simp only [Act.put, List.setIfInBounds_toArray, List.set_cons_zero, List.set_cons_succ]
    clear hK
    refine seq_eff rfl (by kernel_rfl) (fun K hK => ?_)
    go_simp
    refine (num18_any _ _).mono ?_
    rintro e w' ⟨rfl, rfl⟩
    refine hK.out _ _ (.inl (Ex.refl _ _)) ?_
    try simp only [Act.put, List.setIfInBounds_toArray, List.set_cons_zero, List.set_cons_succ]
    clear hK
    refine seq_at (some 86) (v := ?_) rfl (by kernel_rfl) (by kernel_rfl) ?_ ?_
    rotate_left
    · intro w' hw'
      go_simp
      try with_reducible rfl
    simp only [Act.put, List.setIfInBounds_toArray, List.set_cons_zero, List.set_cons_succ]
    refine seq_eff rfl (by kernel_rfl) (fun K hK => ?_)
    go_simp
    refine (num18_any _ _).mono ?_
    rintro e w' ⟨rfl, rfl⟩
    refine hK.out _ _ (.inl (Ex.refl _ _)) ?_
    try simp only [Act.put, List.setIfInBounds_toArray, List.set_cons_zero, List.set_cons_succ]
    clear hK
    refine seq_at (some 89) (v := ?_) rfl (by kernel_rfl) (by kernel_rfl) ?_ ?_
    rotate_left
    · intro w' hw'
      go_simp
      try with_reducible rfl
    simp only [Act.put, List.setIfInBounds_toArray, List.set_cons_zero, List.set_cons_succ]
    refine seq_at (some 90) (v := ?_) rfl (by kernel_rfl) (by kernel_rfl) ?_ ?_
    rotate_left
    · intro w' hw'
      go_simp
      try with_reducible rfl
    simp only [Act.put, List.setIfInBounds_toArray, List.set_cons_zero, List.set_cons_succ]
    refine seq_at (some 91) (v := ?_) rfl (by kernel_rfl) (by kernel_rfl) ?_ ?_
    rotate_left
    · intro w' hw'
      go_simp
      try with_reducible rfl
    simp only [Act.put, List.setIfInBounds_toArray, List.set_cons_zero, List.set_cons_succ]
    refine seq_at (some 92) (v := ?_) rfl (by kernel_rfl) (by kernel_rfl) ?_ ?_
    rotate_left
    · intro w' hw'
      go_simp
      try with_reducible rfl
    simp only [Act.put, List.setIfInBounds_toArray, List.set_cons_zero, List.set_cons_succ]
    refine seq_at (some 93) (v := ?_) rfl (by kernel_rfl) (by kernel_rfl) ?_ ?_
    rotate_left
    · intro w' hw'
      go_simp
      try with_reducible rfl
    simp only [Act.put, List.setIfInBounds_toArray, List.set_cons_zero, List.set_cons_succ]
    refine seq_at (some 94) (v := ?_) rfl (by kernel_rfl) (by kernel_rfl) ?_ ?_
    rotate_left
    · intro w' hw'
      go_simp
      try with_reducible rfl
    simp only [Act.put, List.setIfInBounds_toArray, List.set_cons_zero, List.set_cons_succ]
    refine seq_at (some 95) (v := ?_) rfl (by kernel_rfl) (by kernel_rfl) ?_ ?_
    rotate_left
    · intro w' hw'
      go_simp
      try with_reducible rfl
    simp only [Act.put, List.setIfInBounds_toArray, List.set_cons_zero, List.set_cons_succ]
    refine seq_at (some 96) (v := ?_) rfl (by kernel_rfl) (by kernel_rfl) ?_ ?_
    rotate_left
    · intro w' hw'
      go_simp
      try with_reducible rfl
    simp only [Act.put, List.setIfInBounds_toArray, List.set_cons_zero, List.set_cons_succ]
    clear hz5 hwz
    refine seq_load_msg (some 97) rfl (by kernel_rfl) (by kernel_rfl) (.tmp 17) (by kernel_rfl) b17 ma rfl HSA.out UM.out ?_
    simp only [Act.put, List.setIfInBounds_toArray, List.set_cons_zero, List.set_cons_succ]
    refine seq_load_msg (some 98) rfl (by kernel_rfl) (by kernel_rfl) (.tmp 3) (by kernel_rfl) w.heap.size ma rfl HSA.out UA.out ?_
    simp only [Act.put, List.setIfInBounds_toArray, List.set_cons_zero, List.set_cons_succ]
    have hea := HEA.out
    refine seq_at (some 99) (v := ?_) rfl (by kernel_rfl) (by kernel_rfl) ?_ ?_
    rotate_left
    · intro w' hw'
      go_simp
      try with_reducible rfl
    simp only [Act.put, List.setIfInBounds_toArray, List.set_cons_zero, List.set_cons_succ]
    clear hea
    refine seq_at (some 100) (v := ?_) rfl (by kernel_rfl) (by kernel_rfl) ?_ ?_
    rotate_left
    · intro w' hw'
      go_simp
      try with_reducible rfl
    simp only [Act.put, List.setIfInBounds_toArray, List.set_cons_zero, List.set_cons_succ]
    refine seq_at (some 101) (v := ?_) rfl (by kernel_rfl) (by kernel_rfl) ?_ ?_
    rotate_left
    · intro w' hw'
      go_simp
      try with_reducible rfl
    simp only [Act.put, List.setIfInBounds_toArray, List.set_cons_zero, List.set_cons_succ]
    refine seq_at (some 102) (v := ?_) rfl (by kernel_rfl) (by kernel_rfl) ?_ ?_
    rotate_left
    · intro w' hw'
      go_simp
      try with_reducible rfl
    simp only [Act.put, List.setIfInBounds_toArray, List.set_cons_zero, List.set_cons_succ]
    have U1 := HU1.out
    refine seq_at (some 103) (v := ?_) rfl (by kernel_rfl) (by kernel_rfl) ?_ ?_
    rotate_left
    · intro w' hw'
      obtain q0 := U1 w' hw'
      go_simp
      try with_reducible rfl
    simp only [Act.put, List.setIfInBounds_toArray, List.set_cons_zero, List.set_cons_succ]
    clear U1
    refine seq_at (some 104) (v := ?_) rfl (by kernel_rfl) (by kernel_rfl) ?_ ?_
    rotate_left
    · intro w' hw'
      go_simp
      try with_reducible rfl
    simp only [Act.put, List.setIfInBounds_toArray, List.set_cons_zero, List.set_cons_succ]
    have U2 := HU2.out
    refine seq_at (some 105) (v := ?_) rfl (by kernel_rfl) (by kernel_rfl) ?_ ?_
    rotate_left
    · intro w' hw'
      obtain q0 := U2 w' hw'
      go_simp
      try with_reducible rfl
    simp only [Act.put, List.setIfInBounds_toArray, List.set_cons_zero, List.set_cons_succ]
    clear U2
    have qd1 := HQD.out
    have qd2 : decide (PZ = PW) = t := by rw [← HQD.out, Bool.eq_iff_iff]; simp
    refine seq_at (some 106) (v := ?_) rfl (by kernel_rfl) (by kernel_rfl) ?_ ?_
    rotate_left
    · intro w' hw'
      go_simp
      try with_reducible rfl
    simp only [Act.put, List.setIfInBounds_toArray, List.set_cons_zero, List.set_cons_succ]
    clear qd1 qd2
    refine seq_load_msg (some 107) rfl (by kernel_rfl) (by kernel_rfl) (.tmp 3) (by kernel_rfl) w.heap.size ma rfl HSA.out UA.out ?_
    simp only [Act.put, List.setIfInBounds_toArray, List.set_cons_zero, List.set_cons_succ]
    refine seq_load_msg (some 108) rfl (by kernel_rfl) (by kernel_rfl) (.tmp 4) (by kernel_rfl) (w.heap.size + 1) mb rfl HSB.out UB.out ?_
    simp only [Act.put, List.setIfInBounds_toArray, List.set_cons_zero, List.set_cons_succ]
    have heq := HEQ.out
    refine seq_at (some 109) (v := ?_) rfl (by kernel_rfl) (by kernel_rfl) ?_ ?_
    rotate_left
    · intro w' hw'
      go_simp
      try with_reducible rfl
    simp only [Act.put, List.setIfInBounds_toArray, List.set_cons_zero, List.set_cons_succ]
    clear heq
    refine seq_at (some 110) (v := ?_) rfl (by kernel_rfl) (by kernel_rfl) ?_ ?_
    rotate_left
    · intro w' hw'
      go_simp
      try with_reducible rfl
    simp only [Act.put, List.setIfInBounds_toArray, List.set_cons_zero, List.set_cons_succ]
    refine seq_at (some 111) (v := ?_) rfl (by kernel_rfl) (by kernel_rfl) ?_ ?_
    rotate_left
    · intro w' hw'
      go_simp
      try with_reducible rfl
    simp only [Act.put, List.setIfInBounds_toArray, List.set_cons_zero, List.set_cons_succ]
    refine seq_at (some 6) (v := ?_) rfl (by kernel_rfl) (by kernel_rfl) ?_ ?_
    rotate_left
    · intro w' hw'
      go_simp
      try with_reducible rfl
    simp only [Act.put, List.setIfInBounds_toArray, List.set_cons_zero, List.set_cons_succ]
    refine seq_nil ?_
    go_wp2_with fail
    go_ret
    exact ⟨rfl, HB13.out⟩
theorem back_any : Calls Tryd.prog 7 #[.agg (mcells a), .agg (mcells b), .agg (dcells d A c)] w (fun e w' => e = .returned (.bool true) ∧ Below w.heap.size w w') := by
  cases h1 : mayM a with
  | false =>
    cases h2 : mayM b with
    | false => exact back_nn w a b ha hb d A c h1 h2
    | true => exact back_ny w a b ha hb d A c h1 h2
  | true =>
    cases h2 : mayM b with
    | false => exact back_yn w a b ha hb d A c h1 h2
    | true => exact back_yy w a b ha hb d A c h1 h2
end
end Go.Proofs.YtemmdlanidepbaaDoor
