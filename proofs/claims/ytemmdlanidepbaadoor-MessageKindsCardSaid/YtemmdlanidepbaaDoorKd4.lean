/- MessageKinds: from the masters on. -/
import Derived.Test.YtemmdlanidepbaaDoorKd3
import Derived.Test.YtemmdlanidepbaaDoorKnown18
import Derived.Sort.CutIn
namespace Go.Proofs.YtemmdlanidepbaaDoor
open Go.RowKit Go.Shelf
set_option linter.unusedSimpArgs false
set_option linter.unusedVariables false
set_option maxRecDepth 100000
attribute [local go_sem] Oper.semAt_some

def tailOf : Nat → Code → Code
  | 0, c => c
  | n + 1, .seq _ b => tailOf n b
  | _ + 1, c => c
noncomputable def tl5 : Code := tailOf 4 (Tryd.f5.body.getD .skip)

theorem turn_k {t leave k : Int} {e : Exit} (h : e = .normal ∧ k = 13 ∨ e = .exit 2 ∧ t = 0 ∧ k = leave) : k = 13 ∨ k = leave := h.elim (fun h => .inl h.2) (fun h => .inr h.2.2)
theorem turn_e {t leave k : Int} {e : Exit} (h : e = .normal ∧ k = 13 ∨ e = .exit 2 ∧ t = 0 ∧ k = leave) (K : Act → World → Prop) (Q : Exit → Act → World → Prop) (a : Act) (w : World) (hk : K a w) : Exit.inBlock 2 (Exit.then K Q) e a w := by
  rcases h with ⟨rfl, _⟩ | ⟨rfl, _⟩
  · exact hk
  · show (if 2 = 2 then Exit.then K Q Exit.normal a w else Exit.then K Q (Exit.exit 2) a w)
    rw [if_pos rfl]
    exact hk
theorem below_alloc_step {w w' : World} {o : Obj} (h : Below (w.alloc o).heap.size (w.alloc o) w') : Below w.heap.size w w' := ((Below.refl _ _).alloc (Nat.le_refl _) o).trans (h.mono (by simp))
theorem below_put {B : Nat} {a w : World} (h : Below B a w) {D : Nat} (o : Obj) (hD : B ≤ D) : Below B a (w.putObj D o) :=
  ⟨h.os, h.tape, h.output, by simpa using h.size, fun k hk => (World.putObj_heap_other (by omega)).trans (h.block k hk)⟩
theorem leave2 {F : Fence} {n : Nat} {P : Program} {fn : Func} {p : Tmp} {ty : TypeId} (hr : fn.results = #[.cell p ty]) (hu : P.underlying ty = some .bool) {tmps : Array Value} {B b4 D1 D2 : Nat} {v : Bool} {W0 w : World} (hp : tmps.getD p undef = .pointer (some ⟨b4, 0, none⟩)) (h4 : Boxed w b4 ty (.bool v))
    (h1 : w.heap[D1]? = some (.deferred (some []))) (h2 : w.heap[D2]? = some (.deferred (some []))) (hne : D2 ≠ D1) (hB : Below B W0 w) (hB1 : B ≤ D1) (hB2 : B ≤ D2) :
    LeavesInM F n P fn tmps (fun e w' => e = .returned (.bool v) ∧ Below B W0 w') [{ target := .collected D2, args := #[] }, { target := .collected D1, args := #[] }] .returning w := by
  refine ⟨by simp, .inl ⟨_, _, rfl, run_takeDeferred h2, ?_⟩⟩
  have h1' : (w.putObj D2 (.deferred none)).heap[D1]? = some (.deferred (some [])) := (World.putObj_heap_other (Ne.symm hne)).trans h1
  refine ⟨by simp, .inl ⟨_, _, rfl, run_takeDeferred h1', ?_⟩⟩
  have k4 : Boxed ((w.putObj D2 (.deferred none)).putObj D1 (.deferred none)) b4 ty (.bool v) := by
    have n2 : D2 ≠ b4 := fun e => by rw [e, show w.heap[b4]? = _ from h4] at h2; cases h2
    have n1 : D1 ≠ b4 := fun e => by rw [e, show w.heap[b4]? = _ from h4] at h1; cases h1
    exact (World.putObj_heap_other (Ne.symm n1)).trans ((World.putObj_heap_other (Ne.symm n2)).trans h4)
  have c4 := k4.cell
  refine ⟨.bool v, ?_, rfl, below_put (below_put hB _ hB2) _ hB1⟩
  have hp' : tmps[p]?.getD undef = .pointer (some ⟨b4, 0, none⟩) := by simpa using hp
  have hi : ∀ u, (isAgg ty).run P u = .ok false u := fun u => by unfold isAgg; rw [Sem.run_bind, run_underlying hu u]; rfl
  simp [results, hr, go_sem, hp', hi, c4]
theorem nilf (u : World) : (Go.binOp .eql 49 (.func (.func 63) #[] #[]) .nilFunc).run Tryd.prog u = .ok (.bool false) u := by kernel_rfl
set_option maxHeartbeats 8000000 in
theorem kinds_tail (n : Nat) (hn : 4 ≤ n) (b3 b4 b5 bN B : Nat) (k leave : Int) (hk : I64 k) (W0 W : World) (hW : Below B W0 W) (hB4 : B ≤ b4) (hl3 : b3 < W.heap.size) (hl4 : b4 < W.heap.size) (hl5 : b5 < W.heap.size) (hlN : bN < W.heap.size) (h34 : b3 ≠ b4) (h54 : b5 ≠ b4) (hN4 : bN ≠ b4)
    (h3 : W.cell? ⟨b3, 0, none⟩ = some (.int .i64 leave)) (hl : I64 leave) (h4 : Boxed W b4 4 (.bool false))
    (h5 : W.cell? ⟨b5, 0, none⟩ = some (.slice (some ⟨bN, 0, none⟩) 13 13)) (hN : W.heap[bN]? = some (.cells nmc 9 (0, 0)))
    (u2 u7 u8 u9 u10 u11 u12 u13 u14 u15 u16 u17 u18 u19 u20 u21 u22 u23 u24 u25 u26 u27 u28 u29 u30 u31 u32 u33 u34 u35 u36 u37 u38 u39 u40 u41 u42 u43 u44 u45 u46 u47 u48 u49 u50 u51 u52 u53 u54 u55 u56 u57 u58 u59 u60 u61 u62 u63 u64 u65 u66 u67 u68 u69 u70 u71 u72 u73 u74 u75 u76 u77 u78 u79 u80 u81 u82 u83 u84 u85 u86 u87 u88 u89 u90 u91 u92 u93 u94 u95 u96 u97 u98 u99 u100 u101 u102 u103 u104 u105 u106 u107 u108 u109 u110 u111 u112 u113 u114 u115 u116 u117 u118 u119 u120 : Value) :
    tl5.wpIn Fence.wide n Tryd.prog (bodyPostM Fence.wide n Tryd.prog Tryd.f5 (fun e w' => e = .returned (.bool true) ∧ Below B W0 w')) { tmps := (.int .i64 k :: .int .i64 leave :: u2 :: .pointer (some ⟨b3, 0, none⟩) :: .pointer (some ⟨b4, 0, none⟩) :: .pointer (some ⟨b5, 0, none⟩) :: .string (nameOf k) :: u7 :: u8 :: u9 :: u10 :: u11 :: u12 :: u13 :: u14 :: u15 :: u16 :: u17 :: u18 :: u19 :: u20 :: u21 :: u22 :: u23 :: u24 :: u25 :: u26 :: u27 :: u28 :: u29 :: u30 :: u31 :: u32 :: u33 :: u34 :: u35 :: u36 :: u37 :: u38 :: u39 :: u40 :: u41 :: u42 :: u43 :: u44 :: u45 :: u46 :: u47 :: u48 :: u49 :: u50 :: u51 :: u52 :: u53 :: u54 :: u55 :: u56 :: u57 :: u58 :: u59 :: u60 :: u61 :: u62 :: u63 :: u64 :: u65 :: u66 :: u67 :: u68 :: u69 :: u70 :: u71 :: u72 :: u73 :: u74 :: u75 :: u76 :: u77 :: u78 :: u79 :: u80 :: u81 :: u82 :: u83 :: u84 :: u85 :: u86 :: u87 :: u88 :: u89 :: u90 :: u91 :: u92 :: u93 :: u94 :: u95 :: u96 :: u97 :: u98 :: u99 :: u100 :: u101 :: u102 :: u103 :: u104 :: u105 :: u106 :: u107 :: u108 :: u109 :: u110 :: u111 :: u112 :: u113 :: u114 :: u115 :: u116 :: u117 :: u118 :: u119 :: u120 :: []).toArray, defers := [] } W := by
  obtain ⟨Q, hQ⟩ : ∃ Q, Q = bodyPostM Fence.wide n Tryd.prog Tryd.f5 (fun e w' => e = .returned (.bool true) ∧ Below B W0 w') := ⟨_, rfl⟩
  rw [← hQ]
  have HQ := Lib.hid hQ
  clear hQ
  conv => arg 4; whnf
  gi_upto_region 5 with fail
  gi_cut [7] from 13 (fun v wc => v = .bool (masterOf k) ∧ wc = W)
  case first =>
    by_cases e2 : k = 2
    · subst e2; gi_wp2; gi_meet; case rel => exact ⟨rfl, rfl⟩
    by_cases e3 : k = 3
    · subst e3; gi_wp2; gi_meet; case rel => exact ⟨rfl, rfl⟩
    by_cases e4 : k = 4
    · subst e4; gi_wp2; gi_meet; case rel => exact ⟨rfl, rfl⟩
    by_cases e5 : k = 5
    · subst e5; gi_wp2; gi_meet; case rel => exact ⟨rfl, rfl⟩
    by_cases e12 : k = 12
    · subst e12; gi_wp2; gi_meet; case rel => exact ⟨rfl, rfl⟩
    by_cases e13 : k = 13
    · subst e13; gi_wp2; gi_meet; case rel => exact ⟨rfl, rfl⟩
    have HM : Hid (masterOf k = false) := decide_eq_false (by omega)
    have f2 : (k == 2) = false := by simp [e2]
    have f3 : (k == 3) = false := by simp [e3]
    have f4 : (k == 4) = false := by simp [e4]
    have f5 : (k == 5) = false := by simp [e5]
    have f12 : (k == 12) = false := by simp [e12]
    have f13 : (k == 13) = false := by simp [e13]
    clear e2 e3 e4 e5 e12 e13
    gi_wp2; gi_meet
    case rel => exact ⟨by rw [HM.out], rfl⟩
  case rest =>
    obtain ⟨rfl, rfl⟩ := hcut
    have hn1 : 1 ≤ n := by omega
    gi_wp2_with (refine ⟨trivial, ?_⟩; gi_at_call 18; refine (callsIn_wide.2 (name_any k _)).mono ?_; rintro e w1 ⟨rfl, hb1⟩)
    gi_wp2_with (refine ⟨trivial, ?_⟩; gi_at_call 20; refine (callsIn_wide.2 (fields_any k _)).mono ?_; rintro e w2 ⟨A2, c2, rfl, ho2, hb2⟩)
    have HA2 := Lib.hid (own_at ho2)
    clear ho2
    gi_wp2_with (refine ⟨trivial, ?_⟩; gi_at_call 21; refine (callsIn_wide.2 (rFields_any k _)).mono ?_; rintro e w3 ⟨A3, c3, rfl, hA3, hb3⟩)
    have HL := Lib.hid (fieldsOf_len k)
    gi_wp2_with (refine ⟨trivial, ?_⟩; gi_at_call 19; refine (callsIn_wide.2 (fields18_eq A2 A3 c2 c3 (fieldsOf k) _ (HA2.out.mono hb3) hA3 (Nat.le_trans HL.out (by omega)))).mono ?_; rintro e w4 ⟨rfl, hb4⟩)
    gi_wp2_with (refine ⟨trivial, ?_⟩; gi_at_call 22; refine (callsIn_wide.2 (master_any k _)).mono ?_; rintro e w5 ⟨rfl, hb5⟩)
    have hb : Below wc.heap.size wc w5 := Bl.step (Bl.step (Bl.step (Bl.step hb1 hb2) hb3) hb4) hb5
    have Hs := Lib.hid hb.size
    have G3 := Lib.hid ((hb.cell (p := ⟨b3, 0, none⟩) hl3).trans h3)
    have G4 : Hid (Boxed w5 b4 4 (.bool false)) := Lib.hid (h4.kept (grown_of_below hb none) (by simp))
    have G5 := Lib.hid ((hb.cell (p := ⟨b5, 0, none⟩) hl5).trans h5)
    have GN := Lib.hid ((hb.block bN hlN).trans hN)
    have GB := Lib.hid (hW.trans (hb.mono (by omega)))
    clear hb1 hb2 hb3 hb4 hb5 hb hA3 HA2 h3 h4 h5 hN hW
    have hnf := nilf
    gi_upto_region 11 with (refine ⟨trivial, ?_⟩; gi_at_call 23; refine (callsIn_wide.2 (kinds18_any _)).mono ?_; rintro e w' ⟨rfl, rfl⟩)
    gi_wp2
    refine wpIn_loop_rounds 3 ?_
    rw [roundsIn_succ]
    gi_wp2
    have hs5 : w5.heap.size < (w5.alloc (.cells #[.int .i64 0] 3)).heap.size := by simp
    have U0 : Boxed ((w5.alloc (.cells #[.int .i64 0] 3)).alloc (.cells #[.int .i64 0] 3)) (w5.heap.size + 1) 3 (.int .i64 0) := by
      have := Boxed.new (w5.alloc (.cells #[.int .i64 0] 3)) 3 (.int .i64 0)
      rwa [World.size_alloc] at this
    have U9 : Boxed ((w5.alloc (.cells #[.int .i64 0] 3)).alloc (.cells #[.int .i64 0] 3)) w5.heap.size 3 (.int .i64 0) := (Boxed.new w5 3 (.int .i64 0)).alloc _
    have hbb : Below w5.heap.size w5 ((w5.alloc (.cells #[.int .i64 0] 3)).alloc (.cells #[.int .i64 0] 3)) := ((Below.refl _ _).alloc (Nat.le_refl _) _).alloc (by simp) _
    generalize (w5.alloc (.cells #[.int .i64 0] 3)).alloc (.cells #[.int .i64 0] 3) = w6 at *
    have hq3 : b3 < w5.heap.size := Nat.lt_of_lt_of_le hl3 Hs.out
    have hq4 : b4 < w5.heap.size := Nat.lt_of_lt_of_le hl4 Hs.out
    have hq5 : b5 < w5.heap.size := Nat.lt_of_lt_of_le hl5 Hs.out
    have hqN : bN < w5.heap.size := Nat.lt_of_lt_of_le hlN Hs.out
    have I3 := Lib.hid ((hbb.cell (p := ⟨b3, 0, none⟩) hq3).trans G3.out)
    have I4 : Hid (Boxed w6 b4 4 (.bool false)) := Lib.hid (G4.out.kept (grown_of_below hbb none) (by simp))
    have I5 := Lib.hid ((hbb.cell (p := ⟨b5, 0, none⟩) hq5).trans G5.out)
    have IN := Lib.hid ((hbb.block bN hqN).trans GN.out)
    have IB := Lib.hid (GB.out.trans (hbb.mono (by omega)))
    clear hbb G3 G4 G5 GN GB
    refine turn_in n (by omega) b3 b4 b5 w5.heap.size (w5.heap.size + 1) bN 0 leave (.inl rfl) w6 (by omega) (by omega) (by omega) (by omega) (by omega) I3.out hl U9.cell I4.out.frozen I4.out.cell I5.out IN.out U0 _ _ _ _ _ _ _ _ _ _ _ _ _ _ _ _ _ _ _ _ _ _ _ _ _ _ _ _ _ _ _ _ _ _ _ _ _ _ _ _ _ _ _ _ _ _ _ _ _ _ _ _ _ _ _ _ _ _ _ _ _ _ _ _ _ _ _ _ _ _ _ _ _ _ _ _ _ _ _ _ _ _ _ _ _ _ _ _ _ _ _ _ _ _ _ _ _ _ _ _ _ _ _ _ _ _ _ _ _ _ _ _ _ _ _ _ _ ?_
    rintro e D1 w7 k1 ⟨how, hbl, hbx, hsz, hdf⟩
    have hk1 := turn_k how
    refine turn_e how _ _ _ _ ?_
    clear how
    have q3 := (hbl.cell (p := ⟨b3, 0, none⟩) (Nat.lt_succ_of_lt hq3)).trans I3.out
    have q9 := (hbl.cell (p := ⟨w5.heap.size, 0, none⟩) (Nat.lt_succ_self _)).trans U9.cell
    have q10 := hbx.cell
    gi_upto_region 22 with fail
    gi_cut [118] from 13 (fun v wx => v = .bool false ∧ wx = w7)
    case first =>
      by_cases h13 : k1 = 13
      · subst h13
        clear hk1
        gi_wp2; gi_meet
        case rel => exact ⟨rfl, rfl⟩
      · obtain hlv := (hk1.resolve_left h13).symm
        subst hlv
        have h13b : (leave == 13) = false := by simp [h13]
        clear hk1
        gi_wp2; gi_meet
        case rel => exact ⟨rfl, rfl⟩
    case rest =>
      clear hk1
      obtain ⟨rfl, rfl⟩ := hcut
      have J3 := Lib.hid ((hbl.cell (p := ⟨b3, 0, none⟩) (Nat.lt_succ_of_lt hq3)).trans I3.out)
      have s6 : w5.heap.size + 1 < w6.heap.size := U0.lt
      have s7 : w6.heap.size ≤ wc.heap.size := hbl.size
      have J4 : Hid (Boxed wc b4 4 (.bool false)) := Lib.hid ((hbl.block _ (Nat.lt_succ_of_lt hq4)).trans I4.out)
      have J5 := Lib.hid ((hbl.cell (p := ⟨b5, 0, none⟩) (Nat.lt_succ_of_lt hq5)).trans I5.out)
      have JN := Lib.hid ((hbl.block bN (Nat.lt_succ_of_lt hqN)).trans IN.out)
      have JB := Lib.hid (IB.out.trans (hbl.mono (by omega)))
      have JD := Lib.hid hdf
      have sD := (Array.getElem?_eq_some_iff.1 hdf).1
      gi_wp2
      rw [roundsIn_succ]
      gi_wp2
      clear q3 q9 q10 U9 U0 hbl I3 I4 I5 IN IB hbx hdf
      have V0 : Boxed ((wc.alloc (.cells #[.int .i64 1] 3)).alloc (.cells #[.int .i64 0] 3)) (wc.heap.size + 1) 3 (.int .i64 0) := by
        have := Boxed.new (wc.alloc (.cells #[.int .i64 1] 3)) 3 (.int .i64 0)
        rwa [World.size_alloc] at this
      have V9 : Boxed ((wc.alloc (.cells #[.int .i64 1] 3)).alloc (.cells #[.int .i64 0] 3)) wc.heap.size 3 (.int .i64 1) := (Boxed.new wc 3 (.int .i64 1)).alloc _
      have hbb : Below wc.heap.size wc ((wc.alloc (.cells #[.int .i64 1] 3)).alloc (.cells #[.int .i64 0] 3)) := ((Below.refl _ _).alloc (Nat.le_refl _) _).alloc (by simp) _
      generalize (wc.alloc (.cells #[.int .i64 1] 3)).alloc (.cells #[.int .i64 0] 3) = w8 at *
      have hr3 : b3 < wc.heap.size := by omega
      have hr4 : b4 < wc.heap.size := by omega
      have hr5 : b5 < wc.heap.size := by omega
      have hrN : bN < wc.heap.size := by omega
      have I3 := Lib.hid ((hbb.cell (p := ⟨b3, 0, none⟩) hr3).trans J3.out)
      have I4 : Hid (Boxed w8 b4 4 (.bool false)) := Lib.hid (J4.out.kept (grown_of_below hbb none) (by simp))
      have I5 := Lib.hid ((hbb.cell (p := ⟨b5, 0, none⟩) hr5).trans J5.out)
      have IN := Lib.hid ((hbb.block bN hrN).trans JN.out)
      have ID := Lib.hid ((hbb.block D1 sD).trans JD.out)
      have IB := Lib.hid (JB.out.trans (hbb.mono (by omega)))
      clear hbb J3 J4 J5 JN JB JD
      refine turn_in n (by omega) b3 b4 b5 wc.heap.size (wc.heap.size + 1) bN 1 leave (.inr rfl) w8 (by omega) (by omega) (by omega) (by omega) (by omega) I3.out hl V9.cell I4.out.frozen I4.out.cell I5.out IN.out V0 _ _ _ _ _ _ _ _ _ _ _ _ _ _ _ _ _ _ _ _ _ _ _ _ _ _ _ _ _ _ _ _ _ _ _ _ _ _ _ _ _ _ _ _ _ _ _ _ _ _ _ _ _ _ _ _ _ _ _ _ _ _ _ _ _ _ _ _ _ _ _ _ _ _ _ _ _ _ _ _ _ _ _ _ _ _ _ _ _ _ _ _ _ _ _ _ _ _ _ _ _ _ _ _ _ _ _ _ _ _ _ _ _ _ _ _ _ ?_
      rintro e D2 w9 k2 ⟨how, hbl, hbx, hsz2, hdf⟩
      obtain ⟨rfl, rfl⟩ : e = .normal ∧ k2 = 13 := how.elim id (fun h => absurd h.2.1 (by omega))
      clear how
      have q3 := (hbl.cell (p := ⟨b3, 0, none⟩) (Nat.lt_succ_of_lt hr3)).trans I3.out
      have q9 := (hbl.cell (p := ⟨wc.heap.size, 0, none⟩) (Nat.lt_succ_self _)).trans V9.cell
      have q10 := hbx.cell
      have s8 : wc.heap.size + 1 < w8.heap.size := V0.lt
      have J4 : Hid (Boxed w9 b4 4 (.bool false)) := Lib.hid ((hbl.block _ (Nat.lt_succ_of_lt hr4)).trans I4.out)
      have JB := Lib.hid (IB.out.trans (hbl.mono (by omega)))
      have JD := Lib.hid ((hbl.block D1 (Nat.lt_succ_of_lt sD)).trans ID.out)
      have JD2 := Lib.hid hdf
      have s9 := (Array.getElem?_eq_some_iff.1 hdf).1
      have s10 := hbl.size
      clear I3 I4 I5 IN IB ID hbl hdf hbx
      gi_wp2
      rw [roundsIn_succ]
      gi_wp2
      gi_wp2_with (refine ⟨trivial, ?_⟩; gi_at_call 13; refine (callsIn_wide.2 (known18_any _)).mono ?_; rintro e w10 ⟨rfl, hb10⟩; have hbA := below_alloc_step hb10; have K4 := Boxed.kept J4.out (grown_of_below hbA none) (by simp); have c4 := Boxed.cell K4; have f4 := Boxed.frozen K4)
      rw [HQ.out]
      have l1 := (Array.getElem?_eq_some_iff.1 JD.out).1
      have l2 := (Array.getElem?_eq_some_iff.1 JD2.out).1
      have g1 := (hbA.block D1 l1).trans JD.out
      have g2 := (hbA.block D2 l2).trans JD2.out
      have n1 : D1 ≠ b4 := fun e => by rw [e, show w10.heap[b4]? = _ from K4] at g1; cases g1
      have n2 : D2 ≠ b4 := fun e => by rw [e, show w10.heap[b4]? = _ from K4] at g2; cases g2
      exact leave2 rfl Tryd.underlying4 rfl (K4.set (.bool true)) ((Below.heap_setCell w10 ⟨b4, 0, none⟩ _ D1 n1).trans g1) ((Below.heap_setCell w10 ⟨b4, 0, none⟩ _ D2 n2).trans g2) (by omega)
        ((JB.out.trans (hbA.mono (by omega))).setCell (p := ⟨b4, 0, none⟩) hB4 _) (by omega) (by omega)
end Go.Proofs.YtemmdlanidepbaaDoor
