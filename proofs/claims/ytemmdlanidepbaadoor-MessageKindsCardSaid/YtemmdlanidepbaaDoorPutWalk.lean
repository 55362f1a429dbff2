/- Contract of message.Put. Contract of message.Put: the walk. -/
import Derived.Test.YtemmdlanidepbaaDoorBare
import Derived.Deep.WholeRow
namespace Go.Proofs.YtemmdlanidepbaaDoor
open Go.RowKit
set_option linter.unusedSimpArgs false
set_option maxRecDepth 100000

/-- a message's bytes -/
def putB (m : Msg) : List UInt8 := enc m.kind.toNat ++ ((fieldsOf m.kind).map (fieldB m)).flatten
theorem fields_range {k f : Int} (h : f ∈ fieldsOf k) : f = 1 ∨ f = 2 ∨ f = 3 ∨ f = 4 ∨ f = 5 ∨ f = 6 ∨ f = 7 := by
  by_cases hk : 1 ≤ k ∧ k ≤ 13
  · rcases kind_cases hk with rfl | rfl | rfl | rfl | rfl | rfl | rfl | rfl | rfl | rfl | rfl | rfl | rfl
    all_goals (simp [fieldsOf] at h; omega)
  · rw [fieldsOf_out hk] at h; cases h
/-- what a message that may be is known of -/
structure Bounds (m : Msg) : Prop where
  kind : 1 ≤ m.kind ∧ m.kind ≤ 13
  page : 0 ≤ m.page ∧ m.page < 16
  op : 0 ≤ m.op ∧ m.op ≤ 4611686018427387904
  mode : 0 ≤ m.mode ∧ m.mode ≤ 2
  dest : 0 ≤ m.dest ∧ m.dest < 8
  psn : 0 ≤ m.psn ∧ m.psn ≤ 2147483647
theorem bounds_of {m : Msg} (h : mayM m = true) : Bounds m := by
  unfold mayM at h
  simp only [Bool.and_eq_true, Bool.not_eq_true'] at h
  obtain ⟨⟨⟨h1, h2⟩, h3⟩, h4⟩ := h
  simp only [may1, Bool.or_eq_false_iff, decide_eq_false_iff_not] at h1
  simp only [may2, Bool.or_eq_false_iff, decide_eq_false_iff_not, Bool.and_eq_false_iff] at h2
  simp only [may3, Bool.or_eq_false_iff, decide_eq_false_iff_not, Bool.and_eq_false_iff] at h3
  have hk : 1 ≤ m.kind ∧ m.kind ≤ 13 := by
    by_cases hk : 1 ≤ m.kind ∧ m.kind ≤ 13
    · exact hk
    · rw [fieldsOf_out hk] at h1; simp at h1
  refine ⟨hk, by omega, by omega, ?_, by omega, ?_⟩
  · have h5 := h2.1.2
    have h6 := h2.2
    cases hb : hasB m.kind 3 <;> rw [hb] at h5 h6 <;> simp at h5 h6 <;> omega
  · unfold may4 at h4
    cases hb : hasB m.kind 5 <;> rw [hb] at h4
    · simp at h4; omega
    · simp only [if_true, Bool.and_eq_true, decide_eq_true_eq] at h4
      split at h4 <;> omega
theorem form_len {m : Msg} (hm : m.Ok) (hb : Bounds m) (f : Int) : (fieldB m f).length ≤ 106 := by
  have l1 := enc_len (n := m.page.toNat) (by unfold U64; have := hb.page; omega)
  have l2 := enc_len (n := m.op.toNat) (by unfold U64; have := hb.op; omega)
  have l3 := enc_len (n := m.mode.toNat) (by unfold U64; have := hb.mode; omega)
  have l4 := enc_len (n := m.dest.toNat) (by unfold U64; have := hb.dest; omega)
  have l5 := enc_len (n := m.psn.toNat) (by unfold U64; have := hb.psn; omega)
  have l7 : (encB (bareB m.body)).length ≤ 106 := by
    have hl : (bareB m.body).length ≤ 96 := by unfold bareB; rw [List.length_take]; have := hm.body; omega
    have := enc_len (n := (bareB m.body).length) (by unfold U64; omega)
    unfold encB
    rw [List.length_append]
    omega
  unfold fieldB
  repeat' split
  all_goals first | omega | (simp [flg])
theorem map_take {m : Msg} (L : List Int) (j : Nat) (hj : j < L.length) : ((L.take (j + 1)).map (fieldB m)).flatten = ((L.take j).map (fieldB m)).flatten ++ fieldB m L[j] := by
  rw [List.take_succ_eq_append_getElem hj, List.map_append, List.flatten_append]
  simp
theorem put_room {m : Msg} (hm : m.Ok) (hb : Bounds m) (L : List Int) : ∀ j, j ≤ L.length → ((L.take j).map (fieldB m)).flatten.length ≤ 106 * j := by
  intro j
  induction j with
  | zero => intro _; simp
  | succ j ih =>
    intro hj
    rw [map_take L j (by omega), List.length_append]
    have := ih (by omega)
    have := form_len hm hb L[j]
    omega
end Go.Proofs.YtemmdlanidepbaaDoor
namespace Go.Proofs.YtemmdlanidepbaaDoor
open Go.RowKit
set_option linter.unusedSimpArgs false
set_option maxRecDepth 100000

theorem infoMsg : (Tryd.prog.info? 27).map (·.size) = some 103 := by kernel_rfl
theorem stop_fns {p : Prop} (h : Hid p) : p := h.out
/-- the seven forms' functions -/
def fnOf (f : Int) (g : Nat) : Value :=
  if f = 1 then .func (.func 30) #[] #[.pointer (some ⟨g, 0, none⟩)] else if f = 2 then .func (.func 32) #[] #[.pointer (some ⟨g, 0, none⟩)] else if f = 3 then .func (.func 33) #[] #[.pointer (some ⟨g, 0, none⟩)]
  else if f = 4 then .func (.func 34) #[] #[.pointer (some ⟨g, 0, none⟩)] else if f = 5 then .func (.func 35) #[] #[.pointer (some ⟨g, 0, none⟩)] else if f = 6 then .func (.func 36) #[] #[.pointer (some ⟨g, 0, none⟩)]
  else .func (.func 38) #[] #[.pointer (some ⟨g, 0, none⟩)]

theorem own_types {w : World} {base base' : Nat} {e e' : TypeId} {size size' n n' : Nat} {v v' : Value} {xs xs' : List Value} (h : w.ownsRow base e size v n xs) (h' : w.ownsRow base' e' size' v' n' xs') (hne : e ≠ e') : ∀ k, v.ownBlock = some k → v'.ownBlock ≠ some k := by
  intro k hk hk'
  rcases h.2 with ⟨rfl, _⟩ | ⟨g, cap, cur, rfl, _, h1, _⟩
  · cases hk
  rcases h'.2 with ⟨rfl, _⟩ | ⟨g', cap', cur', rfl, _, h2, _⟩
  · cases hk'
  injection hk with hk
  injection hk' with hk'
  have e1 : g = k := hk
  have e2 : g' = k := hk'
  subst e1
  subst e2
  rw [h1] at h2
  injection h2 with h2
  injection h2 with _ h2
  exact hne h2
theorem own_apart {w w1 : World} {base base' : Nat} {e e' : TypeId} {size size' n n' : Nat} {v v' : Value} {xs xs' : List Value} (h : w.ownsRow base e size v n xs) (h' : w.ownsRow base' e' size' v' n' xs') (hne : e ≠ e') (hg : w.grownBy w1 v.ownBlock) : w1.ownsRow base' e' size' v' n' xs' := by
  refine h'.kept hg ?_
  cases hv : v'.ownBlock with
  | none => exact .inl rfl
  | some k => exact .inr (fun e => own_types h' h (Ne.symm hne) k hv e.symm)
def fns (g : Nat) : Array Value := #[.nilFunc, .func (.func 30) #[] #[.pointer (some ⟨g, 0, none⟩)], .func (.func 32) #[] #[.pointer (some ⟨g, 0, none⟩)], .func (.func 33) #[] #[.pointer (some ⟨g, 0, none⟩)], .func (.func 34) #[] #[.pointer (some ⟨g, 0, none⟩)], .func (.func 35) #[] #[.pointer (some ⟨g, 0, none⟩)], .func (.func 36) #[] #[.pointer (some ⟨g, 0, none⟩)], .func (.func 38) #[] #[.pointer (some ⟨g, 0, none⟩)]]
theorem fns_all (g : Nat) : (fns g).all (·.oneCell') = true := by kernel_rfl
theorem info72 : (Tryd.prog.info? 72).map (·.size) = some 8 := by kernel_rfl
theorem fns_get {f : Int} (h : f = 1 ∨ f = 2 ∨ f = 3 ∨ f = 4 ∨ f = 5 ∨ f = 6 ∨ f = 7) (g : Nat) : (fns g)[f.toNat]? = some (fnOf f g) := by
  rcases h with rfl | rfl | rfl | rfl | rfl | rfl | rfl
  all_goals rfl
section
variable (m : Msg) (hm : m.Ok) (w : World) (HMay : ∀ W, Calls Tryd.prog 10 #[.agg (mcells m)] W (fun e w' => e = .returned (.bool (mayM m)) ∧ Below W.heap.size W w'))
include hm HMay
theorem put_no (hn : mayM m = false) : Calls Tryd.prog 9 #[.agg (mcells m)] w (fun e w' => e = .returned (.tuple #[.slice none 0 0, .int .i64 2]) ∧ Below w.heap.size w w') := by
  have HS := Lib.hid (mcells_size hm)
  have HM := Lib.hid HMay
  have HN := Lib.hid hn
  clear HMay hn
  go_enter Tryd.func9, Tryd.ntmps9
  obtain ⟨mc, hmc⟩ : ∃ mc, mc = mcells m := ⟨_, rfl⟩
  rw [← hmc] at HM HS ⊢
  clear hmc
  go_wp2_with (refine wpList_load_row rfl 27 (.tmp 1) rfl w.heap.size rfl 27 mc (0, 0) _ (heap_alloc_new w _) Tryd.underlying27 rfl (infoMsg.trans (congrArg some HS.out.symm)) ?_)
  refine (HM.out _).mono ?_
  rintro e w1 ⟨rfl, hb⟩
  rw [HN.out]
  go_wp2_with fail
  go_ret2
  exact ⟨rfl, Bl.step ((Below.refl _ _).alloc (Nat.le_refl _) _) hb⟩
set_option maxHeartbeats 4000000 in
theorem put_yes (hy : mayM m = true) : Calls Tryd.prog 9 #[.agg (mcells m)] w (fun e w' => ∃ g c, e = .returned (.tuple #[.slice (some ⟨g, 0, none⟩) (putB m).length c, .int .i64 0]) ∧
    w'.ownsRow w.heap.size 5 1 (.slice (some ⟨g, 0, none⟩) (putB m).length c) (putB m).length (bv (putB m)) ∧ Below w.heap.size w w') := by
  have HS := Lib.hid (mcells_size hm)
  have HM := Lib.hid HMay
  have HN := Lib.hid hy
  have BD := Lib.hid (bounds_of hy)
  clear HMay hy
  go_enter Tryd.func9, Tryd.ntmps9
  have MC0 := Lib.hid (MCells.box w m)
  have HB0 : Hid (Below w.heap.size w (w.alloc (.cells (mcells m) 27))) := (Below.refl _ _).alloc (Nat.le_refl _) _
  obtain ⟨mc, hmc⟩ : ∃ mc, mc = mcells m := ⟨_, rfl⟩
  rw [← hmc] at HM HS MC0 HB0 ⊢
  clear hmc
  go_wp2_with (refine wpList_load_row rfl 27 (.tmp 1) rfl w.heap.size rfl 27 mc (0, 0) _ (heap_alloc_new w _) Tryd.underlying27 rfl (infoMsg.trans (congrArg some HS.out.symm)) ?_)
  refine (HM.out _).mono ?_
  rintro e w1 ⟨rfl, hb⟩
  rw [HN.out]
  have MC1 := Lib.hid (MC0.out.below hb)
  have HB1 := Lib.hid (Bl.step HB0.out hb)
  have hk0 := MC1.out.c0
  have hgw : w.heap.size < w1.heap.size := MC1.out.lt
  obtain ⟨e1, e2, e3⟩ := num_form m.kind (by have := BD.out.kind; omega) hm.kind.2
  clear hb HM MC0 HB0 HS
  go_upto_region 4 with (refine wpList_store_row rfl 72 (.tmp 4) (.tmp 18) rfl w1.heap.size (fns w.heap.size) rfl rfl 72 _ (heap_alloc_new w1 _) info72 rfl (fns_all _) ?_)
  rw [World.setRow_alloc_new]
  have hba := (Below.refl w1.heap.size w1).alloc (Nat.le_refl _) (.cells (fns w.heap.size) 72)
  have MC2 := Lib.hid (MC1.out.below hba)
  have HB2 := Lib.hid (Bl.step HB1.out hba)
  have HFN : Hid (∀ f : Int, f = 1 ∨ f = 2 ∨ f = 3 ∨ f = 4 ∨ f = 5 ∨ f = 6 ∨ f = 7 → (w1.alloc (.cells (fns w.heap.size) 72)).cell? ⟨w1.heap.size, f.toNat, none⟩ = some (fnOf f w.heap.size)) := Lib.hid fun f hf => by simp [fns_get hf]
  have hgl : w1.heap.size < (w1.alloc (.cells (fns w.heap.size) 72)).heap.size := by simp
  clear hba MC1 HB1 hk0
  have hk2 := MC2.out.c0
  generalize w1.alloc (.cells (fns w.heap.size) 72) = W at *
  have HNK := Lib.hid (number_any m.kind.toNat e2 W)
  rw [e1] at HNK
  clear e1
  obtain ⟨F, hF⟩ : ∃ F, F = fieldsOf m.kind := ⟨_, rfl⟩
  have hFl : F.length ≤ 6 := by rw [hF]; exact fieldsOf_len m.kind
  have HFd := Lib.hid hF
  clear hF
  go_wp2_with fail
  refine HNK.out.mono ?_
  rintro e w3 ⟨g3, c3, rfl, ho3, hb3⟩
  have hk3 := (MC2.out.below hb3).c0
  have HO3 := Lib.hid ho3
  have BW3 := Lib.hid hb3
  clear ho3 hb3 hk2 HNK e3
  go_wp2_with fail
  refine (fields_any m.kind _).mono ?_
  rw [← HFd.out]
  rintro e w4 ⟨A, c4, rfl, ho4, hb4⟩
  have BW4 := Lib.hid (Bl.step BW3.out hb4)
  have HO4 := own_below HO3.out hb4
  have HAF := Lib.hid ho4
  clear ho4 hb4 BW3 HO3 hk3
  go_wp2_with fail
  have hkl := enc_len e2
  have hk13 : 1 ≤ F.length := by
    rw [HFd.out]
    rcases kind_cases BD.out.kind with h | h | h | h | h | h | h | h | h | h | h | h | h
    all_goals (rw [h]; decide)
  go_loopg [5, 27] F.length (fun kk v i wr => ∃ (j : Nat) (l : List UInt8), i = .int .i64 (j : Int) ∧ Hid (j + kk = F.length ∧ l = enc m.kind.toNat ++ ((F.take j).map (fieldB m)).flatten) ∧ wr.ownsRow W.heap.size 5 1 v l.length (bv l) ∧ v.ownBlock.isSome ∧
    Hid (wr.ownsRow w3.heap.size 73 1 (.slice A F.length c4) F.length (iv F)) ∧ Hid (Below W.heap.size W wr))
  case atStart => exact ⟨0, enc m.kind.toNat, rfl, ⟨Nat.zero_add _, by simp⟩, HO4, rfl, HAF, BW4⟩
  case round =>
    clear HO4 HAF BW4
    obtain ⟨j, l, rfl, hj, ho, hs, HAF, BW⟩ := hrel
    obtain ⟨vb, vc, rfl⟩ := own_some ho hs
    by_cases hlt : j < F.length
    · obtain ⟨f, hf⟩ : ∃ f, F[j] = f := ⟨_, rfl⟩
      have hfr := fields_range (k := m.kind) (f := f) (by rw [← HFd.out, ← hf]; exact List.getElem_mem hlt)
      have hmt := map_take (m := m) F j hlt
      rw [hf] at hmt
      have HMT := Lib.hid hmt
      obtain ⟨ad, hAe, hcell⟩ := own_at HAF.out j (.int .i64 f) (by simp [iv, List.getElem?_eq_getElem hlt, hf])
      subst hAe
      have hfn := ((BW.out.cell hgl).trans (HFN.out f hfr))
      have MC := MC2.out.below BW.out
      have HR := Lib.hid (put_room hm BD.out F j (by omega))
      have hfl := form_len hm BD.out f
      have hll : l.length ≤ 700 := by rw [hj.out.2, List.length_append]; have := HR.out; omega
      clear hf hmt
      rcases hfr with rfl | rfl | rfl | rfl | rfl | rfl | rfl
      · change wr.cell? ⟨w1.heap.size, 1, none⟩ = some (.func (.func 30) #[] #[.pointer (some ⟨w.heap.size, 0, none⟩)]) at hfn
        have FC : Hid (Calls Tryd.prog 30 #[.pointer (some ⟨w.heap.size, 0, none⟩)] wr (NewRow wr (fieldB m 1))) := Lib.hid (form1 m hm w.heap.size wr MC BD.out.page.1)
        clear MC
        generalize fieldB m 1 = nw at *
        go_wp2_with fail
        refine FC.out.mono ?_
        rintro e w5 ⟨g5, c5, rfl, ho5, hb5⟩
        have ho6 := own_below ho hb5
        have HA5 := own_below HAF.out hb5
        have hA5 := own_at ho5
        have HB5 := Lib.hid (Bl.step BW.out hb5)
        have hs5 : W.heap.size ≤ w5.heap.size := HB5.out.size
        clear FC hb5 ho5 hfn hcell ho
        go_wp2_with (at_builtin; refine app_rows w5 rfl _ _ 28 rfl W.heap.size 5 (.int .u8 0) 1 1 Tryd.underlying28 infoU8 rfl (by omega) _ _ _ rfl ho6 (some ⟨g5, 0, none⟩) nw.length c5 (bv nw) rfl (by simp [bv_len]) hA5 (bv_one _) (by simp only [maxLen]; omega) (by omega) hs5 ?_; intro v' w' ho' hg hv')
        go_roundg (gk - 1)
        case measure => have := hj.out; omega
        case rel => exact ⟨j + 1, l ++ nw, (by go_num), ⟨(by have := hj.out; omega), (by rw [HMT.out, hj.out.2, List.append_assoc])⟩, (by rw [bv_app, List.length_append]; exact ho'), isSome_of rfl hv', own_apart ho6 HA5 (by decide) hg, Bl.grown HB5.out hg (fun k hk => (ho6.lt k hk).1)⟩
      · change wr.cell? ⟨w1.heap.size, 2, none⟩ = some (.func (.func 32) #[] #[.pointer (some ⟨w.heap.size, 0, none⟩)]) at hfn
        have FC : Hid (Calls Tryd.prog 32 #[.pointer (some ⟨w.heap.size, 0, none⟩)] wr (NewRow wr (fieldB m 2))) := Lib.hid (form2 m hm w.heap.size wr MC BD.out.op.1)
        clear MC
        generalize fieldB m 2 = nw at *
        go_wp2_with fail
        refine FC.out.mono ?_
        rintro e w5 ⟨g5, c5, rfl, ho5, hb5⟩
        have ho6 := own_below ho hb5
        have HA5 := own_below HAF.out hb5
        have hA5 := own_at ho5
        have HB5 := Lib.hid (Bl.step BW.out hb5)
        have hs5 : W.heap.size ≤ w5.heap.size := HB5.out.size
        clear FC hb5 ho5 hfn hcell ho
        go_wp2_with (at_builtin; refine app_rows w5 rfl _ _ 28 rfl W.heap.size 5 (.int .u8 0) 1 1 Tryd.underlying28 infoU8 rfl (by omega) _ _ _ rfl ho6 (some ⟨g5, 0, none⟩) nw.length c5 (bv nw) rfl (by simp [bv_len]) hA5 (bv_one _) (by simp only [maxLen]; omega) (by omega) hs5 ?_; intro v' w' ho' hg hv')
        go_roundg (gk - 1)
        case measure => have := hj.out; omega
        case rel => exact ⟨j + 1, l ++ nw, (by go_num), ⟨(by have := hj.out; omega), (by rw [HMT.out, hj.out.2, List.append_assoc])⟩, (by rw [bv_app, List.length_append]; exact ho'), isSome_of rfl hv', own_apart ho6 HA5 (by decide) hg, Bl.grown HB5.out hg (fun k hk => (ho6.lt k hk).1)⟩
      · change wr.cell? ⟨w1.heap.size, 3, none⟩ = some (.func (.func 33) #[] #[.pointer (some ⟨w.heap.size, 0, none⟩)]) at hfn
        have FC : Hid (Calls Tryd.prog 33 #[.pointer (some ⟨w.heap.size, 0, none⟩)] wr (NewRow wr (fieldB m 3))) := Lib.hid (form3 m hm w.heap.size wr MC BD.out.mode.1)
        clear MC
        generalize fieldB m 3 = nw at *
        go_wp2_with fail
        refine FC.out.mono ?_
        rintro e w5 ⟨g5, c5, rfl, ho5, hb5⟩
        have ho6 := own_below ho hb5
        have HA5 := own_below HAF.out hb5
        have hA5 := own_at ho5
        have HB5 := Lib.hid (Bl.step BW.out hb5)
        have hs5 : W.heap.size ≤ w5.heap.size := HB5.out.size
        clear FC hb5 ho5 hfn hcell ho
        go_wp2_with (at_builtin; refine app_rows w5 rfl _ _ 28 rfl W.heap.size 5 (.int .u8 0) 1 1 Tryd.underlying28 infoU8 rfl (by omega) _ _ _ rfl ho6 (some ⟨g5, 0, none⟩) nw.length c5 (bv nw) rfl (by simp [bv_len]) hA5 (bv_one _) (by simp only [maxLen]; omega) (by omega) hs5 ?_; intro v' w' ho' hg hv')
        go_roundg (gk - 1)
        case measure => have := hj.out; omega
        case rel => exact ⟨j + 1, l ++ nw, (by go_num), ⟨(by have := hj.out; omega), (by rw [HMT.out, hj.out.2, List.append_assoc])⟩, (by rw [bv_app, List.length_append]; exact ho'), isSome_of rfl hv', own_apart ho6 HA5 (by decide) hg, Bl.grown HB5.out hg (fun k hk => (ho6.lt k hk).1)⟩
      · change wr.cell? ⟨w1.heap.size, 4, none⟩ = some (.func (.func 34) #[] #[.pointer (some ⟨w.heap.size, 0, none⟩)]) at hfn
        have FC : Hid (Calls Tryd.prog 34 #[.pointer (some ⟨w.heap.size, 0, none⟩)] wr (NewRow wr (fieldB m 4))) := Lib.hid (form4 m hm w.heap.size wr MC BD.out.dest.1)
        clear MC
        generalize fieldB m 4 = nw at *
        go_wp2_with fail
        refine FC.out.mono ?_
        rintro e w5 ⟨g5, c5, rfl, ho5, hb5⟩
        have ho6 := own_below ho hb5
        have HA5 := own_below HAF.out hb5
        have hA5 := own_at ho5
        have HB5 := Lib.hid (Bl.step BW.out hb5)
        have hs5 : W.heap.size ≤ w5.heap.size := HB5.out.size
        clear FC hb5 ho5 hfn hcell ho
        go_wp2_with (at_builtin; refine app_rows w5 rfl _ _ 28 rfl W.heap.size 5 (.int .u8 0) 1 1 Tryd.underlying28 infoU8 rfl (by omega) _ _ _ rfl ho6 (some ⟨g5, 0, none⟩) nw.length c5 (bv nw) rfl (by simp [bv_len]) hA5 (bv_one _) (by simp only [maxLen]; omega) (by omega) hs5 ?_; intro v' w' ho' hg hv')
        go_roundg (gk - 1)
        case measure => have := hj.out; omega
        case rel => exact ⟨j + 1, l ++ nw, (by go_num), ⟨(by have := hj.out; omega), (by rw [HMT.out, hj.out.2, List.append_assoc])⟩, (by rw [bv_app, List.length_append]; exact ho'), isSome_of rfl hv', own_apart ho6 HA5 (by decide) hg, Bl.grown HB5.out hg (fun k hk => (ho6.lt k hk).1)⟩
      · change wr.cell? ⟨w1.heap.size, 5, none⟩ = some (.func (.func 35) #[] #[.pointer (some ⟨w.heap.size, 0, none⟩)]) at hfn
        have FC : Hid (Calls Tryd.prog 35 #[.pointer (some ⟨w.heap.size, 0, none⟩)] wr (NewRow wr (fieldB m 5))) := Lib.hid (form5 m hm w.heap.size wr MC BD.out.psn.1)
        clear MC
        generalize fieldB m 5 = nw at *
        go_wp2_with fail
        refine FC.out.mono ?_
        rintro e w5 ⟨g5, c5, rfl, ho5, hb5⟩
        have ho6 := own_below ho hb5
        have HA5 := own_below HAF.out hb5
        have hA5 := own_at ho5
        have HB5 := Lib.hid (Bl.step BW.out hb5)
        have hs5 : W.heap.size ≤ w5.heap.size := HB5.out.size
        clear FC hb5 ho5 hfn hcell ho
        go_wp2_with (at_builtin; refine app_rows w5 rfl _ _ 28 rfl W.heap.size 5 (.int .u8 0) 1 1 Tryd.underlying28 infoU8 rfl (by omega) _ _ _ rfl ho6 (some ⟨g5, 0, none⟩) nw.length c5 (bv nw) rfl (by simp [bv_len]) hA5 (bv_one _) (by simp only [maxLen]; omega) (by omega) hs5 ?_; intro v' w' ho' hg hv')
        go_roundg (gk - 1)
        case measure => have := hj.out; omega
        case rel => exact ⟨j + 1, l ++ nw, (by go_num), ⟨(by have := hj.out; omega), (by rw [HMT.out, hj.out.2, List.append_assoc])⟩, (by rw [bv_app, List.length_append]; exact ho'), isSome_of rfl hv', own_apart ho6 HA5 (by decide) hg, Bl.grown HB5.out hg (fun k hk => (ho6.lt k hk).1)⟩
      · change wr.cell? ⟨w1.heap.size, 6, none⟩ = some (.func (.func 36) #[] #[.pointer (some ⟨w.heap.size, 0, none⟩)]) at hfn
        have FC : Hid (Calls Tryd.prog 36 #[.pointer (some ⟨w.heap.size, 0, none⟩)] wr (NewRow wr (fieldB m 6))) := Lib.hid (form6 m w.heap.size wr MC)
        clear MC
        generalize fieldB m 6 = nw at *
        go_wp2_with fail
        refine FC.out.mono ?_
        rintro e w5 ⟨g5, c5, rfl, ho5, hb5⟩
        have ho6 := own_below ho hb5
        have HA5 := own_below HAF.out hb5
        have hA5 := own_at ho5
        have HB5 := Lib.hid (Bl.step BW.out hb5)
        have hs5 : W.heap.size ≤ w5.heap.size := HB5.out.size
        clear FC hb5 ho5 hfn hcell ho
        go_wp2_with (at_builtin; refine app_rows w5 rfl _ _ 28 rfl W.heap.size 5 (.int .u8 0) 1 1 Tryd.underlying28 infoU8 rfl (by omega) _ _ _ rfl ho6 (some ⟨g5, 0, none⟩) nw.length c5 (bv nw) rfl (by simp [bv_len]) hA5 (bv_one _) (by simp only [maxLen]; omega) (by omega) hs5 ?_; intro v' w' ho' hg hv')
        go_roundg (gk - 1)
        case measure => have := hj.out; omega
        case rel => exact ⟨j + 1, l ++ nw, (by go_num), ⟨(by have := hj.out; omega), (by rw [HMT.out, hj.out.2, List.append_assoc])⟩, (by rw [bv_app, List.length_append]; exact ho'), isSome_of rfl hv', own_apart ho6 HA5 (by decide) hg, Bl.grown HB5.out hg (fun k hk => (ho6.lt k hk).1)⟩
      · change wr.cell? ⟨w1.heap.size, 7, none⟩ = some (.func (.func 38) #[] #[.pointer (some ⟨w.heap.size, 0, none⟩)]) at hfn
        have FC : Hid (Calls Tryd.prog 38 #[.pointer (some ⟨w.heap.size, 0, none⟩)] wr (NewRow wr (fieldB m 7))) := Lib.hid (form7 m hm w.heap.size wr MC)
        clear MC
        generalize fieldB m 7 = nw at *
        go_wp2_with fail
        refine FC.out.mono ?_
        rintro e w5 ⟨g5, c5, rfl, ho5, hb5⟩
        have ho6 := own_below ho hb5
        have HA5 := own_below HAF.out hb5
        have hA5 := own_at ho5
        have HB5 := Lib.hid (Bl.step BW.out hb5)
        have hs5 : W.heap.size ≤ w5.heap.size := HB5.out.size
        clear FC hb5 ho5 hfn hcell ho
        go_wp2_with (at_builtin; refine app_rows w5 rfl _ _ 28 rfl W.heap.size 5 (.int .u8 0) 1 1 Tryd.underlying28 infoU8 rfl (by omega) _ _ _ rfl ho6 (some ⟨g5, 0, none⟩) nw.length c5 (bv nw) rfl (by simp [bv_len]) hA5 (bv_one _) (by simp only [maxLen]; omega) (by omega) hs5 ?_; intro v' w' ho' hg hv')
        go_roundg (gk - 1)
        case measure => have := hj.out; omega
        case rel => exact ⟨j + 1, l ++ nw, (by go_num), ⟨(by have := hj.out; omega), (by rw [HMT.out, hj.out.2, List.append_assoc])⟩, (by rw [bv_app, List.length_append]; exact ho'), isSome_of rfl hv', own_apart ho6 HA5 (by decide) hg, Bl.grown HB5.out hg (fun k hk => (ho6.lt k hk).1)⟩
    · have e : putB m = l := by rw [hj.out.2, List.take_of_length_le (by omega)]; unfold putB; rw [HFd.out]
      have HE := Lib.hid e
      clear e
      go_wp2_with fail
      go_ret2
      rw [HE.out]
      exact ⟨vb, vc, rfl, own_lower ho HB2.out.size, Bl.step HB2.out BW.out⟩
end
end Go.Proofs.YtemmdlanidepbaaDoor
