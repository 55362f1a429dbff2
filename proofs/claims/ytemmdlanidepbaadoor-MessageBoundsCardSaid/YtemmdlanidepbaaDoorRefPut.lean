/- Contract of millpondref03.Bare. Contract of millpondref18.Put. -/
import Derived.Test.YtemmdlanidepbaaDoorBare
import Derived.Test.YtemmdlanidepbaaDoorRefField
import Derived.Test.YtemmdlanidepbaaDoorPutWalk
namespace Go.Proofs.YtemmdlanidepbaaDoor
open Go.RowKit
set_option linter.unusedSimpArgs false
set_option maxRecDepth 100000

set_option maxHeartbeats 4000000 in
theorem refBare_any (l : List UInt8) (hl : l.length = 96) (w : World) :
    Calls Tryd.prog 58 #[.agg (bodyV l)] w (fun e w' => ∃ A c, e = .returned (.slice A (bareB l).length c) ∧ At w' A (bv (bareB l)) ∧ Below w.heap.size w w') := by
  go_enter Tryd.func58, Tryd.ntmps58
  have hA : At (w.alloc (.cells (bodyV l) 25)) (some ⟨w.heap.size, 0, none⟩) (bv l) := fun j u hj => ⟨_, rfl, by rw [add0]; simpa [bodyV] using hj⟩
  have HA := Lib.hid hA
  have HB : Hid (Below w.heap.size w (w.alloc (.cells (bodyV l) 25))) := Lib.hid ((Below.refl _ _).alloc (Nat.le_refl _) _)
  have hlt0 : w.heap.size < (w.alloc (.cells (bodyV l) 25)).heap.size := by simp
  clear hA
  go_wp2_with fail
  generalize w.alloc (.cells (bodyV l) 25) = w0 at *
  go_loopg [3] 96 (fun kk s wr => ∃ j : Nat, s = .int .i64 (j : Int) ∧ Hid (j ≤ kk ∧ j ≤ 96 ∧ blen l j = blen l l.length) ∧ w0 = wr)
  case atStart => exact ⟨96, rfl, ⟨Nat.le_refl _, Nat.le_refl _, by rw [hl]⟩, rfl⟩
  case round =>
    obtain ⟨j, rfl, hj, rfl⟩ := hrel
    by_cases h0 : j = 0
    · subst h0
      have hle := blen_le l l.length
      have hn : Hid (blen l l.length = 0) := Lib.hid (by rw [← hj.out.2.2]; rfl)
      have hj96 : 0 ≤ 96 := hj.out.2.1
      go_wp2_with fail
      go_loopg [4, 5] 0 (fun kk v ix wr => ∃ q : Nat, ix = .int .i64 (q : Int) ∧ Hid (q + kk = 0 ∧ q ≤ 0) ∧ wr.ownsRow w0.heap.size 5 1 v (l.take q).length (bv (l.take q)) ∧ Hid (Below w0.heap.size w0 wr))
      case atStart => exact ⟨0, rfl, ⟨Nat.zero_add _, Nat.zero_le _⟩, World.ownsRow_nil _ _ _ _, Below.refl _ _⟩
      case round =>
        obtain ⟨q, rfl, hq, ho, HBr⟩ := hrel
        have hlq : (l.take q).length = q := by rw [List.length_take]; have := hq.out; omega
        have HLQ := Lib.hid hlq
        by_cases hlt : q < 0
        · omega
        · have hqj : q = 0 := by have := hq.out; omega
          have e : l.take q = bareB l := by unfold bareB; rw [hn.out, hqj]
          have HE := Lib.hid e
          clear hlq e
          go_wp2_with fail
          go_ret
          rw [HE.out] at ho
          obtain ⟨A, c, rfl, _⟩ := own_form ho
          exact ⟨A, c, rfl, own_at ho, HB.out.trans (HBr.out.mono (Nat.le_of_lt hlt0))⟩
    · have hlt : j - 1 < l.length := by have := hj.out; omega
      obtain ⟨x, hx⟩ : ∃ x, l[j - 1] = x := ⟨_, rfl⟩
      obtain ⟨ad, e, hcell⟩ := HA.out (j - 1) (.int .u8 (x.toNat : Int)) (by simp [bv, List.getElem?_eq_getElem hlt, hx])
      injection e with e
      subst e
      rw [add0] at hcell
      have hj1 : 0 < j := by omega
      obtain ⟨i, hi⟩ : ∃ i, j = i + 1 := ⟨j - 1, by omega⟩
      subst hi
      simp only [Nat.add_sub_cancel] at hcell hlt hx
      have hi96 : i < 96 := by have := hj.out; omega
      by_cases hx0 : x = 0
      · have e0 : ((x.toNat : Int) == 0) = true := by simp [hx0]
        have hb : blen l (i + 1) = blen l i := by rw [blen, if_pos (by rw [List.getElem?_eq_getElem hlt, hx, hx0])]
        have HB2 := Lib.hid (hb.symm.trans hj.out.2.2)
        clear hb hx hx0
        go_wp2_with fail
        go_roundg (gk - 1)
        case measure => have := hj.out; omega
        case rel => exact ⟨i, (by go_num), ⟨(by have := hj.out; omega), (by omega), HB2.out⟩, rfl⟩
      · have e0 : ((x.toNat : Int) == 0) = false := by
          have : x.toNat ≠ 0 := fun e => hx0 (UInt8.toNat_inj.1 e)
          simp [this]
        have hb : blen l (i + 1) = i + 1 := by rw [blen, if_neg (by rw [List.getElem?_eq_getElem hlt, hx]; simp [hx0])]
        have HB2 := Lib.hid hb
        clear hb hx hx0
        have hle := blen_le l l.length
        have hn : Hid (blen l l.length = i + 1) := Lib.hid (by rw [← hj.out.2.2]; exact HB2.out)
        have hj96 : i + 1 ≤ 96 := hj.out.2.1
        go_wp2_with fail
        go_loopg [4, 5] (i + 1) (fun kk v ix wr => ∃ q : Nat, ix = .int .i64 (q : Int) ∧ Hid (q + kk = i + 1 ∧ q ≤ i + 1) ∧ wr.ownsRow w0.heap.size 5 1 v (l.take q).length (bv (l.take q)) ∧ Hid (Below w0.heap.size w0 wr))
        case atStart => exact ⟨0, rfl, ⟨Nat.zero_add _, Nat.zero_le _⟩, World.ownsRow_nil _ _ _ _, Below.refl _ _⟩
        case round =>
          obtain ⟨q, rfl, hq, ho, HBr⟩ := hrel
          have hlq : (l.take q).length = q := by rw [List.length_take]; have := hq.out; omega
          have HLQ := Lib.hid hlq
          by_cases hlt : q < i + 1
          · obtain ⟨x, hx⟩ : ∃ x, l[q] = x := ⟨_, rfl⟩
            obtain ⟨ad, e, hcell⟩ := (HA.out.mono HBr.out) q (.int .u8 (x.toNat : Int)) (by simp [bv, List.getElem?_eq_getElem (show q < l.length by omega), hx])
            injection e with e
            subst e
            rw [add0] at hcell
            have hll : (l.take q).length ≤ 96 := by omega
            have hts := List.take_succ_eq_append_getElem (l := l) (i := q) (by omega)
            rw [hx] at hts
            have HTS := Lib.hid hts
            clear hts hx hlq
            generalize hlz : l.take q = lz at *
            have HLZ := Lib.hid hlz
            clear hlz
            go_wp2_with (first | (at_builtin; refine app_byte rfl _ _ 28 rfl w0.heap.size 5 Tryd.underlying28 infoU8 _ lz rfl ho _ x rfl rfl (by omega) HBr.out.size ?_; intro v' w' ho' hg hv))
            go_roundg (gk - 1)
            case measure => have := hq.out; omega
            case rel => exact ⟨q + 1, (by go_num), ⟨(by have := hq.out; omega), (by omega)⟩, (by rw [HTS.out]; exact ho'), Bl.grown HBr.out hg (fun k hk => (ho.lt k hk).1)⟩
          · have hqj : q = i + 1 := by have := hq.out; omega
            have e : l.take q = bareB l := by unfold bareB; rw [hn.out, hqj]
            have HE := Lib.hid e
            clear hlq e
            go_wp2_with fail
            go_ret
            rw [HE.out] at ho
            obtain ⟨A, c, rfl, _⟩ := own_form ho
            exact ⟨A, c, rfl, own_at ho, HB.out.trans (HBr.out.mono (Nat.le_of_lt hlt0))⟩
end Go.Proofs.YtemmdlanidepbaaDoor
namespace Go.Proofs.YtemmdlanidepbaaDoor
open Go.RowKit
set_option linter.unusedSimpArgs false
set_option maxRecDepth 100000

/-- a slice of fields of the call's own -/
def FldsO (w : World) (l : List Int) (e : Ending) (w' : World) : Prop := ∃ A c, e = .returned (.slice A l.length c) ∧ w'.ownsRow w.heap.size 73 1 (.slice A l.length c) l.length (iv l) ∧ Below w.heap.size w w'
theorem fldsO_lit (w : World) (l : List Int) (cs : Array Value) (h : cs.toList = iv l) (n : Nat) (hn : n = l.length) (hs : cs.size = n) (hl : n ≤ 100) : FldsO w l (.returned (.slice (some ⟨w.heap.size, 0, none⟩) n n)) (w.alloc (.cells cs 73)) := by
  subst hn
  refine ⟨_, l.length, rfl, ?_, (Below.refl _ _).alloc (Nat.le_refl _) _⟩
  rw [← h]
  exact World.ownsRow_lit w cs l.length (Nat.le_refl _) (by simp only [maxLen]; omega) (by rw [hs, Nat.mul_one])
set_option maxHeartbeats 8000000 in
theorem rFieldsO_any (k : Int) (hk : 1 ≤ k ∧ k ≤ 13) (w : World) : Calls Tryd.prog 21 #[.int .i64 k] w (FldsO w (fieldsOf k)) := by
  rcases kind_cases hk with rfl | rfl | rfl | rfl | rfl | rfl | rfl | rfl | rfl | rfl | rfl | rfl | rfl
  all_goals
    clear hk
    go_enter Tryd.func21, Tryd.ntmps21
    go_wp2_with fail
    go_ret
    exact fldsO_lit w _ _ rfl _ rfl rfl (by decide)

set_option maxHeartbeats 8000000 in
theorem refPut_any (m : Msg) (hm : m.Ok) (hy : mayM m = true) (w : World) : Calls Tryd.prog 15 #[.agg (mcells m)] w (NewRow w (putB m)) := by
  have BD := Lib.hid (bounds_of hy)
  have MC := MCells.box w m
  have hb0 : Below w.heap.size w (w.alloc (.cells (mcells m) 27)) := (Below.refl _ _).alloc (Nat.le_refl _) _
  have hs0 : w.heap.size ≤ (w.alloc (.cells (mcells m) 27)).heap.size := hb0.size
  clear hy
  obtain ⟨e1, e2, e3⟩ := num_form m.kind (by have := BD.out.kind; omega) hm.kind.2
  obtain ⟨mc, hmc⟩ : ∃ mc, mc = mcells m := ⟨_, rfl⟩
  rw [← hmc] at MC hb0 hs0 ⊢
  clear hmc
  go_enter Tryd.func15, Tryd.ntmps15
  have c0 := MC.c0
  have HB0 := Lib.hid hb0
  have HC0 := Lib.hid MC
  have HS0 := Lib.hid hs0
  have HNK := Lib.hid (fun W => refNumber_any m.kind.toNat e2 W)
  have E2 := Lib.hid e2
  rw [e1] at HNK
  clear hb0 MC hs0 e1 e2
  go_wp2_with fail
  refine (HNK.out _).mono ?_
  rintro e w1 ⟨g1, c1, rfl, ho, hb⟩
  have hw0 : Hid (w.heap.size ≤ (w.alloc (.cells mc 27)).heap.size) := HS0
  generalize w.alloc (.cells mc 27) = w0 at *
  have HB1 := Lib.hid hb
  have HC1 := Lib.hid (HC0.out.below hb)
  have HO1 := Lib.hid ho
  have c0' := HC1.out.c0
  clear hb ho c0 HNK e3
  go_wp2_with fail
  refine (rFieldsO_any m.kind BD.out.kind _).mono ?_
  obtain ⟨F, hF⟩ : ∃ F, F = fieldsOf m.kind := ⟨_, rfl⟩
  have hFl : F.length ≤ 6 := by rw [hF]; exact fieldsOf_len _
  rw [← hF]
  have HFd := Lib.hid hF
  clear hF
  rintro e w2 ⟨A, c2, rfl, ho, hb⟩
  have HB2 := Lib.hid (HB1.out.trans (hb.mono HB1.out.size))
  have HO2 := Lib.hid (own_below HO1.out hb)
  have HAF := Lib.hid ho
  have hkl := enc_len E2.out
  clear hb ho HB1 HO1 c0'
  go_wp2_with fail
  go_loopg [3, 5] F.length (fun kk v i wr => ∃ (j : Nat) (l : List UInt8), i = .int .i64 (j : Int) ∧ Hid (j + kk = F.length ∧ l = enc m.kind.toNat ++ ((F.take j).map (fieldB m)).flatten) ∧ wr.ownsRow w0.heap.size 5 1 v l.length (bv l) ∧ v.ownBlock.isSome ∧
    Hid (wr.ownsRow w1.heap.size 73 1 (.slice A F.length c2) F.length (iv F)) ∧ Hid (Below w0.heap.size w0 wr))
  case atStart => exact ⟨0, enc m.kind.toNat, rfl, ⟨Nat.zero_add _, by simp⟩, HO2.out, rfl, HAF, HB2⟩
  case round =>
    clear HO2 HAF HB2
    obtain ⟨j, l, rfl, hj, ho, hs, HAF, BW⟩ := hrel
    obtain ⟨vb, vc, rfl⟩ := own_some ho hs
    by_cases hlt : j < F.length
    · obtain ⟨f, hf⟩ : ∃ f, F[j] = f := ⟨_, rfl⟩
      have hfr := fields_range (k := m.kind) (f := f) (by rw [← HFd.out, ← hf]; exact List.getElem_mem hlt)
      have hmt := map_take (m := m) F j hlt
      rw [hf] at hmt
      have HMT := Lib.hid hmt
      obtain ⟨ad, hAe, hcell⟩ := own_at HAF.out j (.int .i64 f) (by simp [iv, List.getElem?_eq_getElem hlt, hf])
      subst hAe
      have MC := Lib.hid (HC0.out.below BW.out)
      have HR := Lib.hid (put_room hm BD.out F j (by omega))
      have hfl := form_len hm BD.out f
      have hll : l.length ≤ 700 := by rw [hj.out.2, List.length_append]; have := HR.out; omega
      clear hf hmt
      rcases hfr with rfl | rfl | rfl | rfl | rfl | rfl | rfl
      · have cf := MC.out.c1
        obtain ⟨q1, q2, q3⟩ := num_form m.page (by have := BD.out.page; omega) hm.page.2
        have FC : Hid (∀ u, Calls Tryd.prog 55 #[.int .u64 m.page] u (NewRow u (fieldB m 1))) := Lib.hid (fun u => by have h := refNumber_any m.page.toNat q2 u; rw [q1] at h; exact h)
        clear q1 q2
        generalize fieldB m 1 = nw at *
        go_wp2_with fail
        refine (FC.out _).mono ?_
        rintro e w5 ⟨g5, c5, rfl, ho5, hb5⟩
        have ho6 := own_below ho hb5
        have HA5 := own_below HAF.out hb5
        have hA5 := own_at ho5
        have HB5 := Lib.hid (Bl.step BW.out hb5)
        have hs5 : w0.heap.size ≤ w5.heap.size := HB5.out.size
        clear FC hb5 ho5 hcell ho
        go_wp2_with (at_builtin; refine app_rows w5 rfl _ _ 28 rfl w0.heap.size 5 (.int .u8 0) 1 1 Tryd.underlying28 infoU8 rfl (by omega) _ _ _ rfl ho6 (some ⟨g5, 0, none⟩) nw.length c5 (bv nw) rfl (by simp [bv_len]) hA5 (bv_one _) (by simp only [maxLen]; omega) (by omega) hs5 ?_; intro v' w' ho' hg hv')
        go_roundg (gk - 1)
        case measure => have := hj.out; omega
        case rel => exact ⟨j + 1, l ++ nw, (by go_num), ⟨(by have := hj.out; omega), (by rw [HMT.out, hj.out.2, List.append_assoc])⟩, (by rw [bv_app, List.length_append]; exact ho'), isSome_of rfl hv', own_apart ho6 HA5 (by decide) hg, Bl.grown HB5.out hg (fun k hk => (ho6.lt k hk).1)⟩
      · have cf := MC.out.c2
        obtain ⟨q1, q2, q3⟩ := num_form m.op (by have := BD.out.op; omega) hm.op.2
        have FC : Hid (∀ u, Calls Tryd.prog 55 #[.int .u64 m.op] u (NewRow u (fieldB m 2))) := Lib.hid (fun u => by have h := refNumber_any m.op.toNat q2 u; rw [q1] at h; exact h)
        clear q1 q2
        generalize fieldB m 2 = nw at *
        go_wp2_with fail
        refine (FC.out _).mono ?_
        rintro e w5 ⟨g5, c5, rfl, ho5, hb5⟩
        have ho6 := own_below ho hb5
        have HA5 := own_below HAF.out hb5
        have hA5 := own_at ho5
        have HB5 := Lib.hid (Bl.step BW.out hb5)
        have hs5 : w0.heap.size ≤ w5.heap.size := HB5.out.size
        clear FC hb5 ho5 hcell ho
        go_wp2_with (at_builtin; refine app_rows w5 rfl _ _ 28 rfl w0.heap.size 5 (.int .u8 0) 1 1 Tryd.underlying28 infoU8 rfl (by omega) _ _ _ rfl ho6 (some ⟨g5, 0, none⟩) nw.length c5 (bv nw) rfl (by simp [bv_len]) hA5 (bv_one _) (by simp only [maxLen]; omega) (by omega) hs5 ?_; intro v' w' ho' hg hv')
        go_roundg (gk - 1)
        case measure => have := hj.out; omega
        case rel => exact ⟨j + 1, l ++ nw, (by go_num), ⟨(by have := hj.out; omega), (by rw [HMT.out, hj.out.2, List.append_assoc])⟩, (by rw [bv_app, List.length_append]; exact ho'), isSome_of rfl hv', own_apart ho6 HA5 (by decide) hg, Bl.grown HB5.out hg (fun k hk => (ho6.lt k hk).1)⟩
      · have cf := MC.out.c3
        obtain ⟨q1, q2, q3⟩ := num_form m.mode (by have := BD.out.mode; omega) hm.mode.2
        have FC : Hid (∀ u, Calls Tryd.prog 55 #[.int .u64 m.mode] u (NewRow u (fieldB m 3))) := Lib.hid (fun u => by have h := refNumber_any m.mode.toNat q2 u; rw [q1] at h; exact h)
        clear q1 q2
        generalize fieldB m 3 = nw at *
        go_wp2_with fail
        refine (FC.out _).mono ?_
        rintro e w5 ⟨g5, c5, rfl, ho5, hb5⟩
        have ho6 := own_below ho hb5
        have HA5 := own_below HAF.out hb5
        have hA5 := own_at ho5
        have HB5 := Lib.hid (Bl.step BW.out hb5)
        have hs5 : w0.heap.size ≤ w5.heap.size := HB5.out.size
        clear FC hb5 ho5 hcell ho
        go_wp2_with (at_builtin; refine app_rows w5 rfl _ _ 28 rfl w0.heap.size 5 (.int .u8 0) 1 1 Tryd.underlying28 infoU8 rfl (by omega) _ _ _ rfl ho6 (some ⟨g5, 0, none⟩) nw.length c5 (bv nw) rfl (by simp [bv_len]) hA5 (bv_one _) (by simp only [maxLen]; omega) (by omega) hs5 ?_; intro v' w' ho' hg hv')
        go_roundg (gk - 1)
        case measure => have := hj.out; omega
        case rel => exact ⟨j + 1, l ++ nw, (by go_num), ⟨(by have := hj.out; omega), (by rw [HMT.out, hj.out.2, List.append_assoc])⟩, (by rw [bv_app, List.length_append]; exact ho'), isSome_of rfl hv', own_apart ho6 HA5 (by decide) hg, Bl.grown HB5.out hg (fun k hk => (ho6.lt k hk).1)⟩
      · have cf := MC.out.c4
        obtain ⟨q1, q2, q3⟩ := num_form m.dest (by have := BD.out.dest; omega) hm.dest.2
        have FC : Hid (∀ u, Calls Tryd.prog 55 #[.int .u64 m.dest] u (NewRow u (fieldB m 4))) := Lib.hid (fun u => by have h := refNumber_any m.dest.toNat q2 u; rw [q1] at h; exact h)
        clear q1 q2
        generalize fieldB m 4 = nw at *
        go_wp2_with fail
        refine (FC.out _).mono ?_
        rintro e w5 ⟨g5, c5, rfl, ho5, hb5⟩
        have ho6 := own_below ho hb5
        have HA5 := own_below HAF.out hb5
        have hA5 := own_at ho5
        have HB5 := Lib.hid (Bl.step BW.out hb5)
        have hs5 : w0.heap.size ≤ w5.heap.size := HB5.out.size
        clear FC hb5 ho5 hcell ho
        go_wp2_with (at_builtin; refine app_rows w5 rfl _ _ 28 rfl w0.heap.size 5 (.int .u8 0) 1 1 Tryd.underlying28 infoU8 rfl (by omega) _ _ _ rfl ho6 (some ⟨g5, 0, none⟩) nw.length c5 (bv nw) rfl (by simp [bv_len]) hA5 (bv_one _) (by simp only [maxLen]; omega) (by omega) hs5 ?_; intro v' w' ho' hg hv')
        go_roundg (gk - 1)
        case measure => have := hj.out; omega
        case rel => exact ⟨j + 1, l ++ nw, (by go_num), ⟨(by have := hj.out; omega), (by rw [HMT.out, hj.out.2, List.append_assoc])⟩, (by rw [bv_app, List.length_append]; exact ho'), isSome_of rfl hv', own_apart ho6 HA5 (by decide) hg, Bl.grown HB5.out hg (fun k hk => (ho6.lt k hk).1)⟩
      · have cf := MC.out.c5
        obtain ⟨q1, q2, q3⟩ := num_form m.psn (by have := BD.out.psn; omega) hm.psn.2
        have FC : Hid (∀ u, Calls Tryd.prog 55 #[.int .u64 m.psn] u (NewRow u (fieldB m 5))) := Lib.hid (fun u => by have h := refNumber_any m.psn.toNat q2 u; rw [q1] at h; exact h)
        clear q1 q2
        generalize fieldB m 5 = nw at *
        go_wp2_with fail
        refine (FC.out _).mono ?_
        rintro e w5 ⟨g5, c5, rfl, ho5, hb5⟩
        have ho6 := own_below ho hb5
        have HA5 := own_below HAF.out hb5
        have hA5 := own_at ho5
        have HB5 := Lib.hid (Bl.step BW.out hb5)
        have hs5 : w0.heap.size ≤ w5.heap.size := HB5.out.size
        clear FC hb5 ho5 hcell ho
        go_wp2_with (at_builtin; refine app_rows w5 rfl _ _ 28 rfl w0.heap.size 5 (.int .u8 0) 1 1 Tryd.underlying28 infoU8 rfl (by omega) _ _ _ rfl ho6 (some ⟨g5, 0, none⟩) nw.length c5 (bv nw) rfl (by simp [bv_len]) hA5 (bv_one _) (by simp only [maxLen]; omega) (by omega) hs5 ?_; intro v' w' ho' hg hv')
        go_roundg (gk - 1)
        case measure => have := hj.out; omega
        case rel => exact ⟨j + 1, l ++ nw, (by go_num), ⟨(by have := hj.out; omega), (by rw [HMT.out, hj.out.2, List.append_assoc])⟩, (by rw [bv_app, List.length_append]; exact ho'), isSome_of rfl hv', own_apart ho6 HA5 (by decide) hg, Bl.grown HB5.out hg (fun k hk => (ho6.lt k hk).1)⟩
      · have cf := MC.out.c6
        have FC : Hid (∀ u, Calls Tryd.prog 56 #[.bool m.dirty] u (NewRow u (fieldB m 6))) := Lib.hid (fun u => refFlag_any m.dirty u)
        generalize fieldB m 6 = nw at *
        go_wp2_with fail
        refine (FC.out _).mono ?_
        rintro e w5 ⟨g5, c5, rfl, ho5, hb5⟩
        have ho6 := own_below ho hb5
        have HA5 := own_below HAF.out hb5
        have hA5 := own_at ho5
        have HB5 := Lib.hid (Bl.step BW.out hb5)
        have hs5 : w0.heap.size ≤ w5.heap.size := HB5.out.size
        clear FC hb5 ho5 hcell ho
        go_wp2_with (at_builtin; refine app_rows w5 rfl _ _ 28 rfl w0.heap.size 5 (.int .u8 0) 1 1 Tryd.underlying28 infoU8 rfl (by omega) _ _ _ rfl ho6 (some ⟨g5, 0, none⟩) nw.length c5 (bv nw) rfl (by simp [bv_len]) hA5 (bv_one _) (by simp only [maxLen]; omega) (by omega) hs5 ?_; intro v' w' ho' hg hv')
        go_roundg (gk - 1)
        case measure => have := hj.out; omega
        case rel => exact ⟨j + 1, l ++ nw, (by go_num), ⟨(by have := hj.out; omega), (by rw [HMT.out, hj.out.2, List.append_assoc])⟩, (by rw [bv_app, List.length_append]; exact ho'), isSome_of rfl hv', own_apart ho6 HA5 (by decide) hg, Bl.grown HB5.out hg (fun k hk => (ho6.lt k hk).1)⟩
      · have BA := Lib.hid MC.out.bodyAt
        have hlb : (bareB m.body).length ≤ 96 := by unfold bareB; rw [List.length_take]; have := hm.body; omega
        have HLB := Lib.hid hlb
        have FC : Hid (∀ u A c, At u A (bv (bareB m.body)) → Calls Tryd.prog 57 #[.slice A (bareB m.body).length c] u (NewRow u (fieldB m 7))) := Lib.hid (fun u A c h => refBytes_any A c (bareB m.body) u h (by omega))
        have FB := Lib.hid (fun u => refBare_any m.body hm.body u)
        clear hlb
        generalize fieldB m 7 = nw at *
        go_wp2_with fail
        refine wp_load_cells 25 _ rfl ⟨_, 7, none⟩ rfl (bodyV m.body) (body_load hm.body BA.out) ?_
        go_at_K
        go_wp2_with fail
        refine (FB.out _).mono ?_
        rintro e w4 ⟨A4, c4, rfl, hA4, hb4⟩
        have BW4 := Lib.hid (Bl.step BW.out hb4)
        have ho4 := own_below ho hb4
        have HAF4 := Lib.hid (own_below HAF.out hb4)
        have HA4 := Lib.hid hA4
        clear hb4 ho hA4 BW HAF FB
        go_wp2_with fail
        refine (FC.out _ _ _ HA4.out).mono ?_
        rintro e w5 ⟨g5, c5, rfl, ho5, hb5⟩
        have ho6 := own_below ho4 hb5
        have HA5 := own_below HAF4.out hb5
        have hA5 := own_at ho5
        have HB5 := Lib.hid (Bl.step BW4.out hb5)
        have hs5 : w0.heap.size ≤ w5.heap.size := HB5.out.size
        clear FC hb5 ho5 hcell ho4
        go_wp2_with (at_builtin; refine app_rows w5 rfl _ _ 28 rfl w0.heap.size 5 (.int .u8 0) 1 1 Tryd.underlying28 infoU8 rfl (by omega) _ _ _ rfl ho6 (some ⟨g5, 0, none⟩) nw.length c5 (bv nw) rfl (by simp [bv_len]) hA5 (bv_one _) (by simp only [maxLen]; omega) (by omega) hs5 ?_; intro v' w' ho' hg hv')
        go_roundg (gk - 1)
        case measure => have := hj.out; omega
        case rel => exact ⟨j + 1, l ++ nw, (by go_num), ⟨(by have := hj.out; omega), (by rw [HMT.out, hj.out.2, List.append_assoc])⟩, (by rw [bv_app, List.length_append]; exact ho'), isSome_of rfl hv', own_apart ho6 HA5 (by decide) hg, Bl.grown HB5.out hg (fun k hk => (ho6.lt k hk).1)⟩
    · have e : putB m = l := by rw [hj.out.2, List.take_of_length_le (by omega)]; unfold putB; rw [HFd.out]
      have HE := Lib.hid e
      clear e
      go_wp2_with fail
      go_ret
      rw [HE.out]
      exact ⟨vb, vc, rfl, own_lower ho hw0.out, HB0.out.trans (BW.out.mono hw0.out)⟩
end Go.Proofs.YtemmdlanidepbaaDoor
