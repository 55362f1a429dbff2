/- MessageKinds: one turn over the kinds. -/
import Derived.Test.YtemmdlanidepbaaDoorKd2
import Derived.Test.YtemmdlanidepbaaDoorArgs
import Derived.RangeFuncFrom
namespace Go.Proofs.YtemmdlanidepbaaDoor
open Go.RowKit Go.Shelf
set_option linter.unusedSimpArgs false
set_option linter.unusedVariables false
set_option maxRecDepth 100000
attribute [local go_sem] Oper.semAt_some

def rangeOf : Code → Option Code
  | .rangeFunc g ps s b => some (.rangeFunc g ps s b)
  | .seq a b => match rangeOf a with
    | some c => some c
    | none => rangeOf b
  | .block _ c => rangeOf c
  | .loop c => rangeOf c
  | .cond _ a b => match rangeOf a with
    | some c => some c
    | none => rangeOf b
  | _ => none
noncomputable def rfK : Code := ((Tryd.f5.body.bind rangeOf).getD .skip)

theorem kup_take {pre : List (Int × ByteArray)} (h : pre <+: kup 13) : pre.length ≤ 13 ∧ pre = kup pre.length := by
  have h1 := h.length_le
  rw [kup_len] at h1
  refine ⟨h1, ?_⟩
  have h2 := List.prefix_iff_eq_take.1 h
  have h3 : (kup 13).take pre.length = kup pre.length := by
    unfold kup
    rw [← List.map_take, List.take_range, Nat.min_eq_left h1]
  rw [h3] at h2
  exact h2
theorem kup_next {pre : List (Int × ByteArray)} (h : pre <+: kup 13) (hl : pre.length < 13) : pre ++ [kn pre.length] <+: kup 13 := by
  obtain ⟨_, e⟩ := kup_take h
  have h2 : pre ++ [kn pre.length] = kup (pre.length + 1) := by rw [kup_succ, ← e]
  rw [h2]
  have : kup (pre.length + 1) = (kup 13).take (pre.length + 1) := by
    unfold kup
    rw [← List.map_take, List.take_range, Nat.min_eq_left (by omega)]
  rw [this]
  exact List.take_prefix _ _
theorem kup_bad {pre : List (Int × ByteArray)} {x : Int × ByteArray} (h : pre ++ [x] <+: kup 13) : x = kn pre.length := by
  obtain ⟨h1, e⟩ := kup_take h
  rw [List.length_append, List.length_singleton] at e
  rw [kup_succ] at e
  have := List.append_inj_right' e rfl
  simpa using this

/-- what a turn hands on -/
structure TurnR (t leave : Int) (bn : Nat) (W : World) (e : Exit) (D : Nat) (W' : World) (k : Int) : Prop where
  how : e = .normal ∧ k = 13 ∨ e = .exit 2 ∧ t = 0 ∧ k = leave
  below : Below bn W W'
  box : Boxed W' bn 3 (.int .i64 k)
  size : W.heap.size ≤ D
  defer : W'.heap[D]? = some (.deferred (some []))

/-- between two rounds; behind the last -/
def TI (bn : Nat) (W : World) (pre : List (Int × ByteArray)) (W' : World) : Prop := (pre <+: kup 13 ∧ Boxed W' bn 3 (.int .i64 (pre.length : Int))) ∧ Below bn W W'
def TX (t leave : Int) (bn : Nat) (W : World) (c : Code) (pre : List (Int × ByteArray)) (W' : World) : Prop :=
  (c = .ret ∧ ¬ pre <+: kup 13) ∨ ((c = .exit 2 ∧ t = 0 ∧ (pre.length : Int) = leave) ∧ Boxed W' bn 3 (.int .i64 (pre.length : Int))) ∧ Below bn W W'
theorem ti_own {bn : Nat} {W : World} (h : bn ≤ W.heap.size) : OwnFrom W.heap.size (TI bn W) :=
  OwnFrom.and (OwnFrom.and (ownFrom_pure _ _) (Own.from (boxed_own _ _ _) _)) (ownFrom_below h h)
theorem tx_own {t leave : Int} {bn : Nat} {W : World} (c : Code) (h : bn ≤ W.heap.size) : OwnFrom W.heap.size (TX t leave bn W c) :=
  fun s X Y row hs hg hr => hs.imp id fun hs => OwnFrom.and (OwnFrom.and (ownFrom_pure W.heap.size (fun s : List (Int × ByteArray) => c = .exit 2 ∧ t = 0 ∧ (s.length : Int) = leave)) (Own.from (boxed_own bn 3 (fun s : List (Int × ByteArray) => Value.int .i64 (s.length : Int))) _)) (ownFrom_below h h) s X Y row hs hg hr

set_option maxHeartbeats 8000000 in
theorem turn_in (n : Nat) (hn : 3 ≤ n) (b3 b4 b5 b9 bn bN : Nat) (t leave : Int) (ht : t = 0 ∨ t = 1) (W : World) (hb3 : b3 < bn) (hb5 : b5 < bn) (hb9 : b9 < bn) (hbN : bN < bn) (hb4 : b4 < bn)
    (h3 : W.cell? ⟨b3, 0, none⟩ = some (.int .i64 leave)) (hl : I64 leave) (h9 : W.cell? ⟨b9, 0, none⟩ = some (.int .i64 t)) (h4 : W.frozen? ⟨b4, 0, none⟩ = false) (h4c : W.cell? ⟨b4, 0, none⟩ = some (.bool false))
    (h5 : W.cell? ⟨b5, 0, none⟩ = some (.slice (some ⟨bN, 0, none⟩) 13 13)) (hN : W.heap[bN]? = some (.cells nmc 9 (0, 0))) (hx : Boxed W bn 3 (.int .i64 0))
    (u0 u1 u2 u6 u7 u8 u11 u12 u13 u14 u15 u16 u17 u18 u19 u20 u21 u22 u23 u24 u25 u26 u27 u28 u29 u30 u31 u32 u33 u34 u35 u36 u37 u38 u39 u40 u41 u42 u43 u44 u45 u46 u47 u48 u49 u50 u51 u52 u53 u54 u55 u56 u57 u58 u59 u60 u61 u62 u63 u64 u65 u66 u67 u68 u69 u70 u71 u73 u74 u75 u76 u77 u78 u79 u80 u81 u82 u83 u84 u85 u86 u87 u88 u89 u90 u91 u92 u93 u94 u95 u96 u97 u98 u99 u100 u101 u102 u103 u104 u105 u106 u107 u108 u109 u110 u111 u112 u113 u114 u115 u116 u117 u118 u119 u120 : Value) (ds : List Deferred) (Q : Exit → Act → World → Prop)
    (hQ : ∀ e D W' k, TurnR t leave bn W e D W' k → Q e { tmps := (u0 :: u1 :: u2 :: .pointer (some ⟨b3, 0, none⟩) :: .pointer (some ⟨b4, 0, none⟩) :: .pointer (some ⟨b5, 0, none⟩) :: u6 :: u7 :: u8 :: .pointer (some ⟨b9, 0, none⟩) :: .pointer (some ⟨bn, 0, none⟩) :: u11 :: u12 :: u13 :: u14 :: u15 :: u16 :: u17 :: u18 :: u19 :: u20 :: u21 :: u22 :: u23 :: u24 :: u25 :: u26 :: u27 :: u28 :: u29 :: u30 :: u31 :: u32 :: u33 :: u34 :: u35 :: u36 :: u37 :: u38 :: u39 :: u40 :: u41 :: u42 :: u43 :: u44 :: u45 :: u46 :: u47 :: u48 :: u49 :: u50 :: u51 :: u52 :: u53 :: u54 :: u55 :: u56 :: u57 :: u58 :: u59 :: u60 :: u61 :: u62 :: u63 :: u64 :: u65 :: u66 :: u67 :: u68 :: u69 :: u70 :: u71 :: .func (.func 63) #[] #[] :: u73 :: u74 :: u75 :: u76 :: u77 :: u78 :: u79 :: u80 :: u81 :: u82 :: u83 :: u84 :: u85 :: u86 :: u87 :: u88 :: u89 :: u90 :: u91 :: u92 :: u93 :: u94 :: u95 :: u96 :: u97 :: u98 :: u99 :: u100 :: u101 :: u102 :: u103 :: u104 :: u105 :: u106 :: u107 :: u108 :: u109 :: u110 :: u111 :: u112 :: u113 :: u114 :: u115 :: u116 :: u117 :: u118 :: u119 :: u120 :: []).toArray, defers := { target := .collected D, args := #[] } :: ds } W') :
    rfK.wpIn Fence.wide n Tryd.prog Q { tmps := (u0 :: u1 :: u2 :: .pointer (some ⟨b3, 0, none⟩) :: .pointer (some ⟨b4, 0, none⟩) :: .pointer (some ⟨b5, 0, none⟩) :: u6 :: u7 :: u8 :: .pointer (some ⟨b9, 0, none⟩) :: .pointer (some ⟨bn, 0, none⟩) :: u11 :: u12 :: u13 :: u14 :: u15 :: u16 :: u17 :: u18 :: u19 :: u20 :: u21 :: u22 :: u23 :: u24 :: u25 :: u26 :: u27 :: u28 :: u29 :: u30 :: u31 :: u32 :: u33 :: u34 :: u35 :: u36 :: u37 :: u38 :: u39 :: u40 :: u41 :: u42 :: u43 :: u44 :: u45 :: u46 :: u47 :: u48 :: u49 :: u50 :: u51 :: u52 :: u53 :: u54 :: u55 :: u56 :: u57 :: u58 :: u59 :: u60 :: u61 :: u62 :: u63 :: u64 :: u65 :: u66 :: u67 :: u68 :: u69 :: u70 :: u71 :: .func (.func 63) #[] #[] :: u73 :: u74 :: u75 :: u76 :: u77 :: u78 :: u79 :: u80 :: u81 :: u82 :: u83 :: u84 :: u85 :: u86 :: u87 :: u88 :: u89 :: u90 :: u91 :: u92 :: u93 :: u94 :: u95 :: u96 :: u97 :: u98 :: u99 :: u100 :: u101 :: u102 :: u103 :: u104 :: u105 :: u106 :: u107 :: u108 :: u109 :: u110 :: u111 :: u112 :: u113 :: u114 :: u115 :: u116 :: u117 :: u118 :: u119 :: u120 :: []).toArray, defers := ds } W := by
  conv => arg 4; whnf
  refine wpIn_rangeFunc_ownF rfl (by omega) (gf := 63) (lb := #[]) rfl trivial (enters_of Tryd.func63 (by kernel_rfl) rfl)
    (seqStopsA_iff.1 (kinds_stops (n - 1) (by omega) W)) walksK_t walksK_b (Below.refl _ _) (fun _ => rfl)
    (TI bn W) (TX t leave bn W) (ti_own (Nat.le_of_lt hx.lt)) (fun c => tx_own c (Nat.le_of_lt hx.lt))
    ⟨⟨List.nil_prefix, hx⟩, Below.refl _ _⟩
    (fun x => { tmps := (u0 :: u1 :: u2 :: .pointer (some ⟨b3, 0, none⟩) :: .pointer (some ⟨b4, 0, none⟩) :: .pointer (some ⟨b5, 0, none⟩) :: u6 :: u7 :: u8 :: .pointer (some ⟨b9, 0, none⟩) :: .pointer (some ⟨bn, 0, none⟩) :: .int .i64 x.1 :: .string x.2 :: u13 :: u14 :: u15 :: u16 :: u17 :: u18 :: u19 :: u20 :: u21 :: u22 :: u23 :: u24 :: u25 :: u26 :: u27 :: u28 :: u29 :: u30 :: u31 :: u32 :: u33 :: u34 :: u35 :: u36 :: u37 :: u38 :: u39 :: u40 :: u41 :: u42 :: u43 :: u44 :: u45 :: u46 :: u47 :: u48 :: u49 :: u50 :: u51 :: u52 :: u53 :: u54 :: u55 :: u56 :: u57 :: u58 :: u59 :: u60 :: u61 :: u62 :: u63 :: u64 :: u65 :: u66 :: u67 :: u68 :: u69 :: u70 :: u71 :: .func (.func 63) #[] #[] :: .int .i64 x.1 :: .string x.2 :: u75 :: u76 :: u77 :: u78 :: u79 :: u80 :: u81 :: u82 :: u83 :: u84 :: u85 :: u86 :: u87 :: u88 :: u89 :: u90 :: u91 :: u92 :: u93 :: u94 :: u95 :: u96 :: u97 :: u98 :: u99 :: u100 :: u101 :: u102 :: u103 :: u104 :: u105 :: u106 :: u107 :: u108 :: u109 :: u110 :: u111 :: u112 :: u113 :: u114 :: u115 :: u116 :: u117 :: u118 :: u119 :: u120 :: []).toArray, defers := [] }) ?assign ?body ?done ?stop
  case assign =>
    intro l x W K hK
    gi_wp2
    exact hK
  case body =>
    rintro l pre x W' ⟨⟨hp, hbx⟩, hB⟩ hlen
    have c10 := hbx.cell
    have f10 := hbx.frozen
    have c3 := (hB.cell (p := ⟨b3, 0, none⟩) hb3).trans h3
    have c9 := (hB.cell (p := ⟨b9, 0, none⟩) hb9).trans h9
    have c5 := (hB.cell (p := ⟨b5, 0, none⟩) hb5).trans h5
    have f4 : W'.frozen? ⟨b4, 0, none⟩ = false := (hB.frozen (p := ⟨b4, 0, none⟩) hb4).trans h4
    have cN : W'.cell? ⟨bN, pre.length, none⟩ = some (.string (nameOf ((pre.length : Int) + 1))) := by
      rw [hB.cell (p := ⟨bN, pre.length, none⟩) hbN]
      simp [World.cell?, hN, nmc_get _ hlen]
    have c4 := (hB.cell (p := ⟨b4, 0, none⟩) hb4).trans h4c
    obtain ⟨x1, x2⟩ := x
    have hw1 : IntKind.i64.wrap ((pre.length : Int) + 1) = (pre.length : Int) + 1 := IntWalk.i64_in _ (by omega)
    clear hQ
    by_cases hx1 : x1 = (pre.length : Int) + 1
    · by_cases hx2 : x2 = nameOf ((pre.length : Int) + 1)
      · have hp2 := kup_next hp hlen
        rw [show kn pre.length = (x1, x2) by rw [hx1, hx2]; rfl] at hp2
        have HP := Lib.hid hp2
        clear hp2
        subst hx1 hx2
        rcases ht with rfl | rfl
        · by_cases hlv : (pre.length : Int) + 1 = leave
          · subst hlv
            gi_wp2
            exact ⟨KeepsOthers.setCell _ _ _, .inr ⟨⟨⟨rfl, rfl, by simp⟩, by rw [List.length_append, List.length_singleton]; exact hbx.set _⟩, hB.setCell (p := ⟨bn, 0, none⟩) (Nat.le_refl _) _⟩⟩
          · gi_wp2
            exact ⟨KeepsOthers.setCell _ _ _, KeepsWalks.setCell _ _ _, ⟨⟨HP.out, by rw [List.length_append, List.length_singleton]; exact hbx.set _⟩, hB.setCell (p := ⟨bn, 0, none⟩) (Nat.le_refl _) _⟩⟩
        · gi_wp2
          exact ⟨KeepsOthers.setCell _ _ _, KeepsWalks.setCell _ _ _, ⟨⟨HP.out, by rw [List.length_append, List.length_singleton]; exact hbx.set _⟩, hB.setCell (p := ⟨bn, 0, none⟩) (Nat.le_refl _) _⟩⟩
      · have HX : Hid (¬ pre ++ [(x1, x2)] <+: kup 13) := fun h => hx2 (congrArg Prod.snd (kup_bad h))
        have hx2b : (x2.toList == (nameOf ((pre.length : Int) + 1)).toList) = false := by
          rw [beq_eq_false_iff_ne]
          intro e
          exact hx2 (Go.WideShapes.bytes_inj (by rw [← ByteArray.toList_eq, ← ByteArray.toList_eq]; exact e))
        subst hx1
        clear hx2
        gi_wp2
        exact ⟨KeepsOthers.setCell _ _ _, .inl ⟨rfl, HX.out⟩⟩
    · have HX : Hid (¬ pre ++ [(x1, x2)] <+: kup 13) := fun h => hx1 (congrArg Prod.fst (kup_bad h))
      gi_wp2
      exact ⟨KeepsOthers.setCell _ _ _, .inl ⟨rfl, HX.out⟩⟩
  case done =>
    rintro D xs W' hD rfl ⟨⟨hp, hbx⟩, hB⟩ hK
    rw [kup_len] at hbx
    exact hQ .normal D W' 13 ⟨.inl ⟨rfl, rfl⟩, hB, hbx, hD, hK⟩
  case stop =>
    rintro D c pre W' hD ⟨k, hk, rfl⟩ hs hK
    rcases hs with ⟨rfl, hbad⟩ | ⟨⟨⟨rfl, rfl, hl⟩, hbx⟩, hB⟩
    · exact (hbad (by rw [show kup k = (kup 13).take k by unfold kup; rw [← List.map_take, List.take_range, Nat.min_eq_left hk]]; exact List.take_prefix _ _)).elim
    · gi_wp2
      exact hQ (.exit 2) D W' leave ⟨.inr ⟨rfl, rfl, rfl⟩, hB, by rw [← hl]; exact hbx, hD, hK⟩
end Go.Proofs.YtemmdlanidepbaaDoor
