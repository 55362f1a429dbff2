/- The law's stands: one turn of its range over the pool's frames. Printed by gen_l2.py. -/
import Derived.Test.YtjbjfpbhacpeiaaR6
import Derived.Test.YtjbjfpbhacpeiaaQ8
import Derived.Test.YtjbjfpbhacpeiaaSa
import Derived.Test.YtjbjfpbhacpeiaaSeqIn
namespace Go.Proofs.Ytjbjfpbhacpeiaa
open Go.RowKit Go.Shelf
set_option linter.unusedSimpArgs false
set_option linter.unusedVariables false
set_option maxRecDepth 100000
attribute [local go_sem] Oper.semAt_some

def rangeOf : Code → Option Code
  | .rangeFunc g ps s b => some (.rangeFunc g ps s b)
  | .seq a b => match rangeOf a with
    | some c => some c
    | none => rangeOf b
  | .block _ c => rangeOf c
  | .loop c => rangeOf c
  | .cond _ a b => match rangeOf a with
    | some c => some c
    | none => rangeOf b
  | _ => none
noncomputable def rfS : Code := ((Try.f12.body.bind rangeOf).getD .skip)
theorem seen_all {K : Int} {S : PS} (hS : S.Ok K) : ∀ k, allK S k = (seenV (lookO hS) k).map (·.1)
  | 0 => rfl
  | k + 1 => by
    cases hv : (lookV S (k : Int)).2 with
    | true => rw [allK_yes hv, seenV_yes (v := lookO hS) hv, List.map_append, ← seen_all hS k]; rfl
    | false => rw [allK_no hv, seenV_no (v := lookO hS) hv, seen_all hS k]
theorem pre_get {α : Type} {pre L : List α} {x : α} (h : pre ++ [x] <+: L) : L[pre.length]? = some x := by
  obtain ⟨s, rfl⟩ := h
  simp
theorem pre_next {α : Type} {pre L : List α} {x : α} (h : pre <+: L) (hx : L[pre.length]? = some x) : pre ++ [x] <+: L := by
  obtain ⟨s, rfl⟩ := h
  rw [List.getElem?_append_right (Nat.le_refl _), Nat.sub_self] at hx
  cases s with
  | nil => simp at hx
  | cons y s => simp at hx; subst hx; exact ⟨s, by simp⟩
/-- the frames that are wanted, laid in a row -/
structure WantAt (W : World) (b12 : Nat) (L : List OFr) (A : Option Addr) (c : Nat) : Prop where
  cell : W.cell? ⟨b12, 0, none⟩ = some (.slice A L.length c)
  row : At W A ((L.map (·.1)).flatMap fcells)
  some : 0 < L.length → ∃ g, A = some ⟨g, 0, none⟩
theorem want_load {u : World} {b12 g : Nat} {L : List OFr} {c : Nat} (h : WantAt u b12 L (some ⟨g, 0, none⟩) c) {j : Nat} {y : OFr} (hy : L[j]? = some y) : (Instr.loadAt 39 (.pointer (some ⟨g, j * 102, none⟩))).run Try.prog u = .ok (.agg (fA y.1)) u := by
  refine run_loadAt_mid u g (j * 102) 39 (fcells y.1) _ (fun i v hi => ?_) fr_under rfl (infoFrL y.2)
  have hi2 : i < 102 := by have := (List.getElem?_eq_some_iff.1 hi).1; rw [fcells_len y.2] at this; exact this
  have hl : ∀ f ∈ L.map (·.1), (fcells f).length = 102 := fun f hf => by
    obtain ⟨z, _, rfl⟩ := List.mem_map.1 hf
    exact fcells_len z.2
  have hg := fl_get (L.map (·.1)) hl j i hi2
  rw [List.getElem?_map, hy] at hg
  obtain ⟨ad, e, hc⟩ := h.row (j * 102 + i) v (hg.trans hi)
  injection e with e
  subst e
  rw [add0] at hc
  exact hc
theorem WantAt.up {W u : World} {b12 : Nat} {L : List OFr} {A : Option Addr} {c : Nat} (h : WantAt W b12 L A c) (hx : Ex (fun _ => False) W u) : WantAt u b12 L A c :=
  ⟨Up.cell h.cell id u hx, Up.bytes h.row (fun _ _ => id) u hx, h.some⟩
/-- what a turn hands on -/
structure TurnR (L : List OFr) (t leave : Int) (bn : Nat) (W : World) (e : Exit) (D : Nat) (W' : World) (k : Int) : Prop where
  how : e = .normal ∧ k = (L.length : Int) ∨ e = .exit 4 ∧ t = 0 ∧ k = leave
  below : Below bn W W'
  box : Boxed W' bn 3 (.int .i64 k)
  size : W.heap.size ≤ D
  defer : W'.heap[D]? = some (.deferred (some []))
def TI (L : List OFr) (bn : Nat) (W : World) (pre : List OFr) (W' : World) : Prop := (pre <+: L ∧ Boxed W' bn 3 (.int .i64 (pre.length : Int))) ∧ Below bn W W'
def TX (L : List OFr) (t leave : Int) (bn : Nat) (W : World) (c : Code) (pre : List OFr) (W' : World) : Prop :=
  (c = .ret ∧ ¬ pre <+: L) ∨ ((c = .exit 4 ∧ t = 0 ∧ (pre.length : Int) = leave) ∧ Boxed W' bn 3 (.int .i64 (pre.length : Int))) ∧ Below bn W W'
theorem ti_own {L : List OFr} {bn : Nat} {W : World} (h : bn ≤ W.heap.size) : OwnFrom W.heap.size (TI L bn W) :=
  OwnFrom.and (OwnFrom.and (ownFrom_pure _ _) (Own.from (boxed_own _ _ _) _)) (ownFrom_below h h)
theorem tx_own {L : List OFr} {t leave : Int} {bn : Nat} {W : World} (c : Code) (h : bn ≤ W.heap.size) : OwnFrom W.heap.size (TX L t leave bn W c) :=
  fun s X Y row hs hg hr => hs.imp id fun hs => OwnFrom.and (OwnFrom.and (ownFrom_pure W.heap.size (fun s : List OFr => c = .exit 4 ∧ t = 0 ∧ (s.length : Int) = leave)) (Own.from (boxed_own bn 3 (fun s : List OFr => Value.int .i64 (s.length : Int))) _)) (ownFrom_below h h) s X Y row hs hg hr
theorem keeps_cell {B : Nat} (W : World) (b o : Nat) (v : Value) (hb : b < B) : KeepsFrom B W (W.drew.setCell ⟨b, o, none⟩ v) :=
  ⟨(setCell_ex (T := fun _ => True) o v W.drew trivial).size, fun k o' hk h1 _ => (Below.heap_setCell W.drew ⟨b, o, none⟩ v k (by dsimp only; omega)).trans h1⟩
theorem ex_of_below {B : Nat} {w w' : World} (h : Below B w w') : Ex (fun k => B ≤ k) w w' := ⟨h.os, h.tape, h.output, h.size, fun k _ hn => h.block k (by omega)⟩
set_option maxHeartbeats 16000000 in
theorem turn_in (n : Nat) (hn : 3 ≤ n) (b m : Nat) {K : Int} {S : PS} (hS : S.Ok K) (gA b5 b6 b12 b14 b15 : Nat) (t leave : Int) (ht : t = 0 ∨ t = 1) (W : World) (hP : PoolAt W b m S) (hlb : b < b15 ∧ m < b15)
    (hl5 : b5 < b15) (hl6 : b6 < b15) (hl12 : b12 < b15) (hl14 : b14 < b15) (hlA : gA < b15)
    (h5 : W.cell? ⟨b5, 0, none⟩ = some (.int .i64 leave)) (h6 : W.frozen? ⟨b6, 0, none⟩ = false) (h6c : W.cell? ⟨b6, 0, none⟩ = some (.bool false)) (h14 : W.cell? ⟨b14, 0, none⟩ = some (.int .i64 t)) (hA : W.cell? ⟨gA, 0, none⟩ = some (.pointer (some ⟨b, 0, none⟩)))
    (A : Option Addr) (c : Nat) (hw : ∀ W', Below b15 W W' → WantAt W' b12 (seenV (lookO hS) 16) A c) (hx : Boxed W b15 3 (.int .i64 0))
    (p0 p1 u2 u3 u4 u7 u8 u9 u10 u11 u13 u16 u17 u18 u19 u20 u21 u22 u23 u24 u25 u26 u27 u28 u29 u30 u31 u32 u33 u34 u35 u36 u37 u38 u39 u40 u41 u42 u43 u44 u45 u46 u47 u48 u49 u50 u51 u52 u53 u54 u55 u56 u57 u58 u59 u60 u61 u62 u63 u64 u65 u66 u67 u68 u69 u70 u71 u73 u74 u75 u76 u77 u78 u79 u80 u81 u82 u83 u84 u85 u86 u87 u88 u89 u90 u91 u92 u93 u94 u95 u96 u97 u98 u99 u100 u101 u102 u103 u104 u105 u106 u107 u108 u109 u110 u111 u112 u113 u114 u115 u116 u117 u118 : Value) (ds : List Deferred) (Q : Exit → Act → World → Prop)
    (hQ : ∀ e D W' k, TurnR (seenV (lookO hS) 16) t leave b15 W e D W' k → Q e { tmps := (p0 :: p1 :: u2 :: u3 :: u4 :: .pointer (some ⟨b5, 0, none⟩) :: .pointer (some ⟨b6, 0, none⟩) :: u7 :: u8 :: u9 :: u10 :: u11 :: .pointer (some ⟨b12, 0, none⟩) :: u13 :: .pointer (some ⟨b14, 0, none⟩) :: .pointer (some ⟨b15, 0, none⟩) :: u16 :: u17 :: u18 :: u19 :: u20 :: u21 :: u22 :: u23 :: u24 :: u25 :: u26 :: u27 :: u28 :: u29 :: u30 :: u31 :: u32 :: u33 :: u34 :: u35 :: u36 :: u37 :: u38 :: u39 :: u40 :: u41 :: u42 :: u43 :: u44 :: u45 :: u46 :: u47 :: u48 :: u49 :: u50 :: u51 :: u52 :: u53 :: u54 :: u55 :: u56 :: u57 :: u58 :: u59 :: u60 :: u61 :: u62 :: u63 :: u64 :: u65 :: u66 :: u67 :: u68 :: u69 :: u70 :: u71 :: .func (.func 47) #[] #[.pointer (some ⟨gA, 0, none⟩)] :: u73 :: u74 :: u75 :: u76 :: u77 :: u78 :: u79 :: u80 :: u81 :: u82 :: u83 :: u84 :: u85 :: u86 :: u87 :: u88 :: u89 :: u90 :: u91 :: u92 :: u93 :: u94 :: u95 :: u96 :: u97 :: u98 :: u99 :: u100 :: u101 :: u102 :: u103 :: u104 :: u105 :: u106 :: u107 :: u108 :: u109 :: u110 :: u111 :: u112 :: u113 :: u114 :: u115 :: u116 :: u117 :: u118 :: []).toArray, defers := { target := .collected D, args := #[] } :: ds } W') :
    rfS.wpIn Fence.wide n Try.prog Q { tmps := (p0 :: p1 :: u2 :: u3 :: u4 :: .pointer (some ⟨b5, 0, none⟩) :: .pointer (some ⟨b6, 0, none⟩) :: u7 :: u8 :: u9 :: u10 :: u11 :: .pointer (some ⟨b12, 0, none⟩) :: u13 :: .pointer (some ⟨b14, 0, none⟩) :: .pointer (some ⟨b15, 0, none⟩) :: u16 :: u17 :: u18 :: u19 :: u20 :: u21 :: u22 :: u23 :: u24 :: u25 :: u26 :: u27 :: u28 :: u29 :: u30 :: u31 :: u32 :: u33 :: u34 :: u35 :: u36 :: u37 :: u38 :: u39 :: u40 :: u41 :: u42 :: u43 :: u44 :: u45 :: u46 :: u47 :: u48 :: u49 :: u50 :: u51 :: u52 :: u53 :: u54 :: u55 :: u56 :: u57 :: u58 :: u59 :: u60 :: u61 :: u62 :: u63 :: u64 :: u65 :: u66 :: u67 :: u68 :: u69 :: u70 :: u71 :: .func (.func 47) #[] #[.pointer (some ⟨gA, 0, none⟩)] :: u73 :: u74 :: u75 :: u76 :: u77 :: u78 :: u79 :: u80 :: u81 :: u82 :: u83 :: u84 :: u85 :: u86 :: u87 :: u88 :: u89 :: u90 :: u91 :: u92 :: u93 :: u94 :: u95 :: u96 :: u97 :: u98 :: u99 :: u100 :: u101 :: u102 :: u103 :: u104 :: u105 :: u106 :: u107 :: u108 :: u109 :: u110 :: u111 :: u112 :: u113 :: u114 :: u115 :: u116 :: u117 :: u118 :: []).toArray, defers := ds } W := by
  have hbl : b15 < W.heap.size := hx.lt
  have hE : Eye (Below b15 W) gA (some ⟨b, 0, none⟩) (lookO hS) := {
    cell := fun W' hW => (hW.cell (p := ⟨gA, 0, none⟩) hlA).trans hA
    look := fun W' hW k hk => look_any W' b m (hP.kept (ex_of_below hW) (by omega) (by omega)) hS (k : Int) (by unfold I64; omega)
    keep := fun W' W'' hW hb => hW.trans (hb.mono (by have := hW.size; omega)) }
  have hNl := seenV_le (lookO hS) 16
  generalize lookO hS = v at *
  conv => arg 4; whnf
  refine wpIn_rangeFunc_ownH (α := OFr) (encs := encF) (Kp := Below b15) (S := fun xs => xs = seenV v 16) (Sp := fun pre => ∃ k, k ≤ 16 ∧ pre = seenV v k) (N := 16) rfl (by omega) (gf := 47) (lb := #[.pointer (some ⟨gA, 0, none⟩)]) rfl trivial (enters_of Try.func47 (by kernel_rfl) rfl)
    (all_stops (n - 1) (by omega) gA 16 _ v _ hE hNl (Below b15) (fun _ _ h k => h.trans k) W (Below.refl _ _)) (fun h k => h.trans k)
    (fun W' l o o' hl _ _ _ => below_put (Below.refl _ _) _ (by omega)) (Below.refl _ _) (fun _ => rfl)
    (TI (seenV v 16) b15 W) (TX (seenV v 16) t leave b15 W) (ti_own (Nat.le_of_lt hbl)) (fun c => tx_own c (Nat.le_of_lt hbl)) ⟨⟨List.nil_prefix, hx⟩, Below.refl _ _⟩
    (fun x a' W' => ∃ g16, a' = { tmps := (p0 :: p1 :: u2 :: u3 :: u4 :: .pointer (some ⟨b5, 0, none⟩) :: .pointer (some ⟨b6, 0, none⟩) :: u7 :: u8 :: u9 :: u10 :: u11 :: .pointer (some ⟨b12, 0, none⟩) :: u13 :: .pointer (some ⟨b14, 0, none⟩) :: .pointer (some ⟨b15, 0, none⟩) :: .pointer (some ⟨g16, 0, none⟩) :: u17 :: u18 :: u19 :: u20 :: u21 :: u22 :: u23 :: u24 :: u25 :: u26 :: u27 :: u28 :: u29 :: u30 :: u31 :: u32 :: u33 :: u34 :: u35 :: u36 :: u37 :: u38 :: u39 :: u40 :: u41 :: u42 :: u43 :: u44 :: u45 :: u46 :: u47 :: u48 :: u49 :: u50 :: u51 :: u52 :: u53 :: u54 :: u55 :: u56 :: u57 :: u58 :: u59 :: u60 :: u61 :: u62 :: u63 :: u64 :: u65 :: u66 :: u67 :: u68 :: u69 :: u70 :: u71 :: .func (.func 47) #[] #[.pointer (some ⟨gA, 0, none⟩)] :: .agg (fA x.1) :: u74 :: u75 :: u76 :: u77 :: u78 :: u79 :: u80 :: u81 :: u82 :: u83 :: u84 :: u85 :: u86 :: u87 :: u88 :: u89 :: u90 :: u91 :: u92 :: u93 :: u94 :: u95 :: u96 :: u97 :: u98 :: u99 :: u100 :: u101 :: u102 :: u103 :: u104 :: u105 :: u106 :: u107 :: u108 :: u109 :: u110 :: u111 :: u112 :: u113 :: u114 :: u115 :: u116 :: u117 :: u118 :: []).toArray, defers := [] } ∧ W'.heap[g16]? = some (.cells (fA x.1) 39 (0, 0))) (fun x a' _ _ _ row hs hg hr => by
      obtain ⟨g16, e, h16⟩ := hs
      exact ⟨g16, e, row_own (β := Unit) _ g16 _ _ () _ _ row h16 hg hr⟩) ?assign ?body ?done ?stop
  case assign =>
    intro l pre x W' K' hI hK'
    have HK := Lib.hid hK'
    have hz := zfr
    clear hK'
    gi_wp2_with (refine listIn_store_row rfl (fun _ => trivial) 39 (.tmp 16) (.tmp 73) rfl _ (fA x.1) rfl rfl 39 _ (heap_alloc_new _ (.cells (fA fr0) 39)) (infoFrA x.2) (fA_size fr0_ok x.2) (fv_all _) ?_; rw [World.setRow_alloc_new])
    simp only [Act.put]
    have hlt : b15 ≤ W'.heap.size := by have := hI.2.size; omega
    have hbn : Below b15 W' (W'.alloc (.cells (fA x.1) 39)) := (Below.refl _ _).alloc hlt _
    exact HK.out _ _ (KeepsFrom.of_grownBy (World.grownBy_alloc W' _ none) (by simp)) hbn ⟨⟨hI.1.1, hI.1.2.alloc _⟩, hI.2.trans hbn⟩ ⟨W'.heap.size, rfl, heap_alloc_new W' _⟩
  case body =>
    rintro l pre x a' W' hl hrec ⟨⟨hp, hb⟩, hB⟩ ⟨g16, rfl, h16⟩ hlen
    have c15 := hb.cell
    have f15 := hb.frozen
    have c5 := (hB.cell (p := ⟨b5, 0, none⟩) hl5).trans h5
    have c14 := (hB.cell (p := ⟨b14, 0, none⟩) hl14).trans h14
    have c6 := (hB.cell (p := ⟨b6, 0, none⟩) hl6).trans h6c
    have f6 : W'.frozen? ⟨b6, 0, none⟩ = false := (hB.frozen (p := ⟨b6, 0, none⟩) hl6).trans h6
    have hw' := hw W' hB
    have c12 := hw'.cell
    have HW := Lib.hid hw'
    have HX6 := Lib.hid h16
    have HO := Lib.hid x.2
    clear hQ hw hw' h16 hrec hl
    have U : Up (fun _ => False) W'.drew (fun u => u.cell? ⟨b15, 0, none⟩ = some (.int .i64 (pre.length : Int)) ∧ u.cell? ⟨b12, 0, none⟩ = some (.slice A (seenV v 16).length c)) := (Up.cell (w := W'.drew) c15 id).and (Up.cell (w := W'.drew) c12 id)
    have UX : Up (fun _ => False) W'.drew (fun u => u.heap[g16]? = some (.cells (fA x.1) 39 (0, 0))) := fun u hu => (hu.block g16 (Array.getElem?_eq_some_iff.1 HX6.out).1 id).trans HX6.out
    by_cases hlt : pre.length < (seenV v 16).length
    · have hy := List.getElem?_eq_getElem hlt
      generalize (seenV v 16)[pre.length] = y at *
      obtain ⟨g, rfl⟩ := HW.out.some (by omega)
      have hltI : (pre.length : Int) < ((seenV v 16).length : Int) := by omega
      have hnge : ¬ ((seenV v 16).length : Int) ≤ (pre.length : Int) := by omega
      have hd1 : decide (((seenV v 16).length : Int) ≤ (pre.length : Int)) = false := decide_eq_false hnge
      have hd2 : decide ((seenV v 16).length ≤ pre.length) = false := decide_eq_false (by omega)
      have LY : Up (fun _ => False) W'.drew (fun u => (Instr.loadAt 39 (.pointer (some ⟨g, pre.length * 102, none⟩))).run Try.prog u = .ok (.agg (fA y.1)) u) := fun u hu => want_load (HW.out.up ((Ex.drew _ W').trans hu)) hy
      have heq := fun u => fr_equal u x.1 y.1 x.2 y.2
      have hw1 : IntKind.i64.wrap ((pre.length : Int) + 1) = (pre.length : Int) + 1 := IntWalk.i64_in _ (by omega)
      cases hb2 : frB x.1 y.1 with
      | true =>
        rw [hb2] at heq
        have hxy : x = y := Subtype.ext (frB_iff.1 hb2)
        have HN := Lib.hid (pre_next (x := x) hp (by rw [hy, hxy]))
        clear hb2 hxy hy
        have hBd : Below b15 W W'.drew := ⟨hB.os, hB.tape, hB.output, hB.size, hB.block⟩
        have hBn : Below b15 W' W'.drew := ⟨rfl, rfl, rfl, Nat.le_refl _, fun _ _ => rfl⟩
        have c15d : W'.drew.cell? ⟨b15, 0, none⟩ = some (.int .i64 (pre.length : Int)) := c15
        have f15d : W'.drew.frozen? ⟨b15, 0, none⟩ = false := f15
        have c14d : W'.drew.cell? ⟨b14, 0, none⟩ = some (.int .i64 t) := c14
        have c5d : W'.drew.cell? ⟨b5, 0, none⟩ = some (.int .i64 leave) := c5
        gi_wp2_with fail
        refine wpIn_region_seq (fun _ => False) [(0, true), (1, true), (2, true), (3, true), (4, true), (5, true), (6, true), (7, true), (8, true), (9, true), (10, true), (11, true)] (fun _ => trivial) (by kernel_rfl) (by kernel_rfl) (by kernel_rfl) (fun _ _ d _ _ h => by cases d <;> exact h) rfl rfl (by kernel_rfl) ?_
        refine seq_at (some 74) (v := ?_) rfl (by kernel_rfl) (by kernel_rfl) ?_ ?_
        rotate_left
        · intro w' hw'
          obtain ⟨q0, q1⟩ := U w' hw'
          go_simp
          try with_reducible rfl
        simp only [Act.put, List.setIfInBounds_toArray, List.set_cons_zero, List.set_cons_succ]
        refine seq_at (some 75) (v := ?_) rfl (by kernel_rfl) (by kernel_rfl) ?_ ?_
        rotate_left
        · intro w' hw'
          obtain ⟨q0, q1⟩ := U w' hw'
          go_simp
          try with_reducible rfl
        simp only [Act.put, List.setIfInBounds_toArray, List.set_cons_zero, List.set_cons_succ]
        refine seq_at (some 76) (v := ?_) rfl (by kernel_rfl) (by kernel_rfl) ?_ ?_
        rotate_left
        · intro w' hw'
          obtain ⟨q0, q1⟩ := U w' hw'
          go_simp
          try with_reducible rfl
        simp only [Act.put, List.setIfInBounds_toArray, List.set_cons_zero, List.set_cons_succ]
        refine seq_at (some 77) (v := ?_) rfl (by kernel_rfl) (by kernel_rfl) ?_ ?_
        rotate_left
        · intro w' hw'
          obtain ⟨q0, q1⟩ := U w' hw'
          go_simp
          try with_reducible rfl
        simp only [Act.put, List.setIfInBounds_toArray, List.set_cons_zero, List.set_cons_succ]
        refine seq_at (some 78) (v := ?_) rfl (by kernel_rfl) (by kernel_rfl) ?_ ?_
        rotate_left
        · intro w' hw'
          obtain ⟨q0, q1⟩ := U w' hw'
          go_simp
          try with_reducible rfl
        simp only [Act.put, List.setIfInBounds_toArray, List.set_cons_zero, List.set_cons_succ]
        refine seq_load_fr (some 79) rfl (by kernel_rfl) (by kernel_rfl) (.tmp 16) rfl g16 x.1 rfl HO.out UX ?_
        simp only [Act.put, List.setIfInBounds_toArray, List.set_cons_zero, List.set_cons_succ]
        refine seq_at (some 80) (v := ?_) rfl (by kernel_rfl) (by kernel_rfl) ?_ ?_
        rotate_left
        · intro w' hw'
          obtain ⟨q0, q1⟩ := U w' hw'
          go_simp
          try with_reducible rfl
        simp only [Act.put, List.setIfInBounds_toArray, List.set_cons_zero, List.set_cons_succ]
        refine seq_at (some 81) (v := ?_) rfl (by kernel_rfl) (by kernel_rfl) ?_ ?_
        rotate_left
        · intro w' hw'
          obtain ⟨q0, q1⟩ := U w' hw'
          go_simp
          try with_reducible rfl
        simp only [Act.put, List.setIfInBounds_toArray, List.set_cons_zero, List.set_cons_succ]
        refine seq_at (some 82) (v := ?_) rfl (by kernel_rfl) (by kernel_rfl) ?_ ?_
        rotate_left
        · intro w' hw'
          obtain ⟨q0, q1⟩ := U w' hw'
          go_simp
          try with_reducible rfl
        simp only [Act.put, List.setIfInBounds_toArray, List.set_cons_zero, List.set_cons_succ]
        refine seq_load_cells (some 83) rfl (by kernel_rfl) (by kernel_rfl) 39 (.tmp 82) rfl ⟨g, pre.length * 102, none⟩ _ rfl LY ?_
        simp only [Act.put, List.setIfInBounds_toArray, List.set_cons_zero, List.set_cons_succ]
        refine seq_at (some 84) (v := ?_) rfl (by kernel_rfl) (by kernel_rfl) ?_ ?_
        rotate_left
        · intro w' hw'
          go_simp
          try with_reducible rfl
        simp only [Act.put, List.setIfInBounds_toArray, List.set_cons_zero, List.set_cons_succ]
        refine seq_at (some 85) (v := ?_) rfl (by kernel_rfl) (by kernel_rfl) ?_ ?_
        rotate_left
        · intro w' hw'
          go_simp
          try with_reducible rfl
        simp only [Act.put, List.setIfInBounds_toArray, List.set_cons_zero, List.set_cons_succ]
        refine seq_nil ?_
        rcases ht with rfl | rfl
        · by_cases hlv : (pre.length : Int) + 1 = leave
          · subst hlv
            gi_wp2_with fail
            exact ⟨keeps_cell W' _ _ _ (by omega), .inr ⟨⟨⟨rfl, rfl, by simp⟩, by rw [List.length_append, List.length_singleton]; exact (show Boxed W'.drew b15 3 (.int .i64 (pre.length : Int)) from hb).set _⟩, hBd.setCell (p := ⟨b15, 0, none⟩) (Nat.le_refl _) _⟩⟩
          · have hlvb : ((pre.length : Int) + 1 == leave) = false := by simpa using hlv
            gi_wp2_with fail
            exact ⟨keeps_cell W' _ _ _ (by omega), hBn.setCell (p := ⟨b15, 0, none⟩) (Nat.le_refl _) _, ⟨⟨HN.out, by rw [List.length_append, List.length_singleton]; exact (show Boxed W'.drew b15 3 (.int .i64 (pre.length : Int)) from hb).set _⟩, hBd.setCell (p := ⟨b15, 0, none⟩) (Nat.le_refl _) _⟩⟩
        · gi_wp2_with fail
          exact ⟨keeps_cell W' _ _ _ (by omega), hBn.setCell (p := ⟨b15, 0, none⟩) (Nat.le_refl _) _, ⟨⟨HN.out, by rw [List.length_append, List.length_singleton]; exact (show Boxed W'.drew b15 3 (.int .i64 (pre.length : Int)) from hb).set _⟩, hBd.setCell (p := ⟨b15, 0, none⟩) (Nat.le_refl _) _⟩⟩
      | false =>
        rw [hb2] at heq
        have HX : Hid (¬ pre ++ [x] <+: seenV v 16) := Lib.hid (fun h => by
          have := pre_get h
          rw [hy] at this
          injection this with this
          rw [this, frB_iff.2 rfl] at hb2
          cases hb2)
        clear hb2 hy
        gi_wp2_with fail
        refine wpIn_region_seq (fun _ => False) [(0, true), (1, true), (2, true), (3, true), (4, true), (5, true), (6, true), (7, true), (8, true), (9, true), (10, true), (11, true)] (fun _ => trivial) (by kernel_rfl) (by kernel_rfl) (by kernel_rfl) (fun _ _ d _ _ h => by cases d <;> exact h) rfl rfl (by kernel_rfl) ?_
        refine seq_at (some 74) (v := ?_) rfl (by kernel_rfl) (by kernel_rfl) ?_ ?_
        rotate_left
        · intro w' hw'
          obtain ⟨q0, q1⟩ := U w' hw'
          go_simp
          try with_reducible rfl
        simp only [Act.put, List.setIfInBounds_toArray, List.set_cons_zero, List.set_cons_succ]
        refine seq_at (some 75) (v := ?_) rfl (by kernel_rfl) (by kernel_rfl) ?_ ?_
        rotate_left
        · intro w' hw'
          obtain ⟨q0, q1⟩ := U w' hw'
          go_simp
          try with_reducible rfl
        simp only [Act.put, List.setIfInBounds_toArray, List.set_cons_zero, List.set_cons_succ]
        refine seq_at (some 76) (v := ?_) rfl (by kernel_rfl) (by kernel_rfl) ?_ ?_
        rotate_left
        · intro w' hw'
          obtain ⟨q0, q1⟩ := U w' hw'
          go_simp
          try with_reducible rfl
        simp only [Act.put, List.setIfInBounds_toArray, List.set_cons_zero, List.set_cons_succ]
        refine seq_at (some 77) (v := ?_) rfl (by kernel_rfl) (by kernel_rfl) ?_ ?_
        rotate_left
        · intro w' hw'
          obtain ⟨q0, q1⟩ := U w' hw'
          go_simp
          try with_reducible rfl
        simp only [Act.put, List.setIfInBounds_toArray, List.set_cons_zero, List.set_cons_succ]
        refine seq_at (some 78) (v := ?_) rfl (by kernel_rfl) (by kernel_rfl) ?_ ?_
        rotate_left
        · intro w' hw'
          obtain ⟨q0, q1⟩ := U w' hw'
          go_simp
          try with_reducible rfl
        simp only [Act.put, List.setIfInBounds_toArray, List.set_cons_zero, List.set_cons_succ]
        refine seq_load_fr (some 79) rfl (by kernel_rfl) (by kernel_rfl) (.tmp 16) rfl g16 x.1 rfl HO.out UX ?_
        simp only [Act.put, List.setIfInBounds_toArray, List.set_cons_zero, List.set_cons_succ]
        refine seq_at (some 80) (v := ?_) rfl (by kernel_rfl) (by kernel_rfl) ?_ ?_
        rotate_left
        · intro w' hw'
          obtain ⟨q0, q1⟩ := U w' hw'
          go_simp
          try with_reducible rfl
        simp only [Act.put, List.setIfInBounds_toArray, List.set_cons_zero, List.set_cons_succ]
        refine seq_at (some 81) (v := ?_) rfl (by kernel_rfl) (by kernel_rfl) ?_ ?_
        rotate_left
        · intro w' hw'
          obtain ⟨q0, q1⟩ := U w' hw'
          go_simp
          try with_reducible rfl
        simp only [Act.put, List.setIfInBounds_toArray, List.set_cons_zero, List.set_cons_succ]
        refine seq_at (some 82) (v := ?_) rfl (by kernel_rfl) (by kernel_rfl) ?_ ?_
        rotate_left
        · intro w' hw'
          obtain ⟨q0, q1⟩ := U w' hw'
          go_simp
          try with_reducible rfl
        simp only [Act.put, List.setIfInBounds_toArray, List.set_cons_zero, List.set_cons_succ]
        refine seq_load_cells (some 83) rfl (by kernel_rfl) (by kernel_rfl) 39 (.tmp 82) rfl ⟨g, pre.length * 102, none⟩ _ rfl LY ?_
        simp only [Act.put, List.setIfInBounds_toArray, List.set_cons_zero, List.set_cons_succ]
        refine seq_at (some 84) (v := ?_) rfl (by kernel_rfl) (by kernel_rfl) ?_ ?_
        rotate_left
        · intro w' hw'
          go_simp
          try with_reducible rfl
        simp only [Act.put, List.setIfInBounds_toArray, List.set_cons_zero, List.set_cons_succ]
        refine seq_at (some 85) (v := ?_) rfl (by kernel_rfl) (by kernel_rfl) ?_ ?_
        rotate_left
        · intro w' hw'
          go_simp
          try with_reducible rfl
        simp only [Act.put, List.setIfInBounds_toArray, List.set_cons_zero, List.set_cons_succ]
        refine seq_nil ?_
        have f6d : W'.drew.frozen? ⟨b6, 0, none⟩ = false := f6
        have c6d : W'.drew.cell? ⟨b6, 0, none⟩ = some (.bool false) := c6
        gi_wp2_with fail
        exact ⟨keeps_cell W' _ _ _ (by first | omega | (dsimp only; omega)), .inl ⟨rfl, HX.out⟩⟩
    · have hge : ((seenV v 16).length : Int) ≤ (pre.length : Int) := by omega
      have hd1 : decide (((seenV v 16).length : Int) ≤ (pre.length : Int)) = true := decide_eq_true hge
      have hd2 : decide ((seenV v 16).length ≤ pre.length) = true := decide_eq_true (by omega)
      have hge2 : (seenV v 16).length ≤ pre.length := by omega
      have HX : Hid (¬ pre ++ [x] <+: seenV v 16) := Lib.hid (fun h => by
        have := h.length_le
        rw [List.length_append, List.length_singleton] at this
        omega)
      gi_wp2_with fail
      refine wpIn_region_seq (fun _ => False) [(0, true), (1, true), (2, true), (3, true), (4, true), (5, true), (6, true), (7, true), (8, true), (9, true), (10, true), (11, true)] (fun _ => trivial) (by kernel_rfl) (by kernel_rfl) (by kernel_rfl) (fun _ _ d _ _ h => by cases d <;> exact h) rfl rfl (by kernel_rfl) ?_
      refine seq_at (some 74) (v := ?_) rfl (by kernel_rfl) (by kernel_rfl) ?_ ?_
      rotate_left
      · intro w' hw'
        obtain ⟨q0, q1⟩ := U w' hw'
        go_simp
        try with_reducible rfl
      simp only [Act.put, List.setIfInBounds_toArray, List.set_cons_zero, List.set_cons_succ]
      refine seq_at (some 75) (v := ?_) rfl (by kernel_rfl) (by kernel_rfl) ?_ ?_
      rotate_left
      · intro w' hw'
        obtain ⟨q0, q1⟩ := U w' hw'
        go_simp
        try with_reducible rfl
      simp only [Act.put, List.setIfInBounds_toArray, List.set_cons_zero, List.set_cons_succ]
      refine seq_at (some 76) (v := ?_) rfl (by kernel_rfl) (by kernel_rfl) ?_ ?_
      rotate_left
      · intro w' hw'
        obtain ⟨q0, q1⟩ := U w' hw'
        go_simp
        try with_reducible rfl
      simp only [Act.put, List.setIfInBounds_toArray, List.set_cons_zero, List.set_cons_succ]
      refine seq_at (some 77) (v := ?_) rfl (by kernel_rfl) (by kernel_rfl) ?_ ?_
      rotate_left
      · intro w' hw'
        obtain ⟨q0, q1⟩ := U w' hw'
        go_simp
        try with_reducible rfl
      simp only [Act.put, List.setIfInBounds_toArray, List.set_cons_zero, List.set_cons_succ]
      refine seq_at (some 78) (v := ?_) rfl (by kernel_rfl) (by kernel_rfl) ?_ ?_
      rotate_left
      · intro w' hw'
        obtain ⟨q0, q1⟩ := U w' hw'
        go_simp
        try with_reducible rfl
      simp only [Act.put, List.setIfInBounds_toArray, List.set_cons_zero, List.set_cons_succ]
      refine seq_skip (some 79) rfl (by kernel_rfl) (by kernel_rfl) ?_
      simp only [Act.put, List.setIfInBounds_toArray, List.set_cons_zero, List.set_cons_succ]
      refine seq_skip (some 80) rfl (by kernel_rfl) (by kernel_rfl) ?_
      simp only [Act.put, List.setIfInBounds_toArray, List.set_cons_zero, List.set_cons_succ]
      refine seq_skip (some 81) rfl (by kernel_rfl) (by kernel_rfl) ?_
      simp only [Act.put, List.setIfInBounds_toArray, List.set_cons_zero, List.set_cons_succ]
      refine seq_skip (some 82) rfl (by kernel_rfl) (by kernel_rfl) ?_
      simp only [Act.put, List.setIfInBounds_toArray, List.set_cons_zero, List.set_cons_succ]
      refine seq_skip (some 83) rfl (by kernel_rfl) (by kernel_rfl) ?_
      simp only [Act.put, List.setIfInBounds_toArray, List.set_cons_zero, List.set_cons_succ]
      refine seq_skip (some 84) rfl (by kernel_rfl) (by kernel_rfl) ?_
      simp only [Act.put, List.setIfInBounds_toArray, List.set_cons_zero, List.set_cons_succ]
      refine seq_at (some 85) (v := ?_) rfl (by kernel_rfl) (by kernel_rfl) ?_ ?_
      rotate_left
      · intro w' hw'
        go_simp
        try with_reducible rfl
      simp only [Act.put, List.setIfInBounds_toArray, List.set_cons_zero, List.set_cons_succ]
      refine seq_nil ?_
      have f6d : W'.drew.frozen? ⟨b6, 0, none⟩ = false := f6
      have c6d : W'.drew.cell? ⟨b6, 0, none⟩ = some (.bool false) := c6
      gi_wp2_with fail
      exact ⟨keeps_cell W' _ _ _ (by omega), .inl ⟨rfl, HX.out⟩⟩
  case done =>
    rintro D xs W' hD rfl ⟨⟨hp, hbx⟩, hB⟩ hK'
    exact hQ .normal D W' _ ⟨.inl ⟨rfl, rfl⟩, hB, hbx, hD, hK'⟩
  case stop =>
    rintro D c' pre W' hD ⟨k, hk, rfl⟩ hs hK'
    rcases hs with ⟨rfl, hbad⟩ | ⟨⟨⟨rfl, rfl, hlv⟩, hbx⟩, hB⟩
    · exact (hbad (seenV_pre v hk)).elim
    · gi_wp2_with fail
      exact hQ (.exit 4) D W' leave ⟨.inr ⟨rfl, rfl, rfl⟩, hB, by rw [← hlv]; exact hbx, hD, hK'⟩
end Go.Proofs.Ytjbjfpbhacpeiaa
