/- Contract of millpondref18.reader.number. Contract of millpondref18.Read. -/
import Derived.Test.YtemmdlanidepbaaDoorRef3
import Derived.Test.YtemmdlanidepbaaDoorParse
import Derived.Test.YtemmdlanidepbaaDoorSeq
import Derived.Test.YtemmdlanidepbaaDoorRefPut
import Derived.Test.YtemmdlanidepbaaDoorSeqMsg
import Derived.Test.YtemmdlanidepbaaDoorReadMsg
import Derived.Test.YtemmdlanidepbaaDoorMayEq
namespace Go.Proofs.YtemmdlanidepbaaDoor
open Go.RowKit
set_option linter.unusedSimpArgs false
set_option maxRecDepth 100000

/-- block x is a reader of the document's messages, over the reader g -/
structure XR (w : World) (x g : Nat) (A : Option Addr) (c : Nat) (l : List UInt8) (pos : Nat) (bad : Bool) : Prop where
  blk : w.heap[x]? = some (.cells #[.pointer (some ⟨g, 0, none⟩), .bool bad] 95 (0, 0))
  rdr : RRdr w g A c l pos
  ne : x ≠ g
  far : ∀ ad, A = some ad → ad.block ≠ x
section
variable {w : World} {x g : Nat} {A : Option Addr} {c : Nat} {l : List UInt8} {pos : Nat} {bad : Bool}
theorem XR.cell0 (h : XR w x g A c l pos bad) : w.cell? ⟨x, 0, none⟩ = some (.pointer (some ⟨g, 0, none⟩)) := by simp [World.cell?, h.blk]
theorem XR.cell1 (h : XR w x g A c l pos bad) : w.cell? ⟨x, 1, none⟩ = some (.bool bad) := by simp [World.cell?, h.blk]
theorem XR.free (h : XR w x g A c l pos bad) (i : Nat) : w.frozen? ⟨x, i, none⟩ = false := by simp [World.frozen?, h.blk]
theorem XR.lt (h : XR w x g A c l pos bad) : x < w.heap.size := (Array.getElem?_eq_some_iff.1 h.blk).1
theorem XR.read {w1 : World} {p : Nat} (h : XR w x g A c l pos bad) (hr : RRdr w1 g A c l p) (hg : w.grownBy w1 (some g)) : XR w1 x g A c l p bad :=
  ⟨(hg.block x h.lt (fun e => by injection e with e; exact h.ne e)).trans h.blk, hr, h.ne, h.far⟩
theorem XR.move {w1 : World} (h : XR w x g A c l pos bad) {row : Option Nat} (hg : w.grownBy w1 row) (h1 : some g ≠ row) (h2 : some x ≠ row) (h3 : ∀ ad, A = some ad → some ad.block ≠ row) : XR w1 x g A c l pos bad :=
  ⟨(hg.block x h.lt h2).trans h.blk, h.rdr.move hg h1 h3, h.ne, h.far⟩
theorem XR.below {w1 : World} (h : XR w x g A c l pos bad) (hb : Below w.heap.size w w1) : XR w1 x g A c l pos bad := h.move (grown_of_below hb none) (by simp) (by simp) (by simp)
theorem XR.spoil (h : XR w x g A c l pos bad) (b : Bool) : XR (w.setCell ⟨x, 1, none⟩ (.bool b)) x g A c l pos b := by
  have hg := grown_set w x 1 (.bool b)
  refine ⟨?_, h.rdr.move hg (fun e => by injection e with e; exact h.ne e.symm) (fun ad e q => by injection q with q; exact h.far ad e q), h.ne, h.far⟩
  simp [World.setCell, Array.getElem?_modify, h.blk]
end
/-- one result; the reader stands at pos -/
def XOk (w : World) (x g : Nat) (A : Option Addr) (c : Nat) (l : List UInt8) (pos : Nat) (bad : Bool) (v : Value) (e : Ending) (w' : World) : Prop :=
  e = .returned v ∧ XR w' x g A c l pos bad ∧ Ex (fun k => k = g ∨ k = x) w w'
/-- it is spoiled -/
def XBad (w : World) (x g : Nat) (A : Option Addr) (c : Nat) (l : List UInt8) (v : Value) (e : Ending) (w' : World) : Prop :=
  e = .returned v ∧ ∃ p, XR w' x g A c l p true ∧ Ex (fun k => k = g ∨ k = x) w w'
theorem ex_g {w w' : World} {x g : Nat} (h : w.grownBy w' (some g)) : Ex (fun k => k = g ∨ k = x) w w' := Ex.grown h (fun k hk => by injection hk with hk; exact .inl hk.symm)
theorem ex_x {w w' : World} {x g : Nat} (h : w.grownBy w' (some x)) : Ex (fun k => k = g ∨ k = x) w w' := Ex.grown h (fun k hk => by injection hk with hk; exact .inr hk.symm)
section
variable (w : World) (x g : Nat) (A : Option Addr) (c : Nat) (l : List UInt8) (pos : Nat) (bad : Bool) (h : XR w x g A c l pos bad)
include h
theorem xnum_ok {n k : Nat} (hd : dec 0 0 (l.drop pos) = some (n, k)) (hn : n ≤ 4611686018427387904) :
    Calls Tryd.prog 59 #[.pointer (some ⟨x, 0, none⟩)] w (XOk w x g A c l (pos + k) bad (.int .i64 (n : Int))) := by
  have HN := Lib.hid (rrNumber_ok _ _ _ _ _ _ h.rdr hd)
  have HX := Lib.hid h
  have c0 := h.cell0
  clear hd
  have hw : IntKind.i64.wrap (n : Int) = n := IntWalk.i64_in _ (by omega)
  have e0 : decide (4611686018427387904 < (n : Int)) = false := by simp; omega
  go_enter Tryd.func59, Tryd.ntmps59
  go_wp2_with fail
  refine HN.out.mono ?_
  rintro e w1 ⟨rfl, hr, hg⟩
  go_wp2_with fail
  go_ret
  exact ⟨rfl, HX.out.read hr hg, ex_g hg⟩
theorem xnum_no (hd : dec 0 0 (l.drop pos) = none) :
    Calls Tryd.prog 59 #[.pointer (some ⟨x, 0, none⟩)] w (XBad w x g A c l (.int .i64 0)) := by
  have HN := Lib.hid (rrNumber_no _ _ _ _ _ _ h.rdr hd)
  have HX := Lib.hid h
  have c0 := h.cell0
  clear hd
  go_enter Tryd.func59, Tryd.ntmps59
  go_wp2_with fail
  refine HN.out.mono ?_
  rintro e w1 ⟨rfl, hr, hg⟩
  have HX1 := Lib.hid (HX.out.read hr hg)
  have c1 := HX1.out.cell1
  have f1 := HX1.out.free 1
  go_wp2_with fail
  go_ret
  exact ⟨rfl, _, HX1.out.spoil true, (ex_g hg).trans (ex_x (grown_set _ _ _ _))⟩
theorem xnum_big {n k : Nat} (hd : dec 0 0 (l.drop pos) = some (n, k)) (hn : 4611686018427387904 < n) :
    Calls Tryd.prog 59 #[.pointer (some ⟨x, 0, none⟩)] w (XBad w x g A c l (.int .i64 0)) := by
  have HN := Lib.hid (rrNumber_ok _ _ _ _ _ _ h.rdr hd)
  have HX := Lib.hid h
  have c0 := h.cell0
  clear hd
  have e0 : decide (4611686018427387904 < (n : Int)) = true := by simp; omega
  go_enter Tryd.func59, Tryd.ntmps59
  go_wp2_with fail
  refine HN.out.mono ?_
  rintro e w1 ⟨rfl, hr, hg⟩
  have HX1 := Lib.hid (HX.out.read hr hg)
  have c1 := HX1.out.cell1
  have f1 := HX1.out.free 1
  go_wp2_with fail
  go_ret
  exact ⟨rfl, _, HX1.out.spoil true, (ex_g hg).trans (ex_x (grown_set _ _ _ _))⟩
/-- in the words of what is parsed -/
theorem xnum_some {z : Int} {p : Nat} (hr : rdNum l pos = some (z, p)) : Calls Tryd.prog 59 #[.pointer (some ⟨x, 0, none⟩)] w (XOk w x g A c l p bad (.int .i64 z)) := by
  unfold rdNum at hr
  split at hr
  · cases hr
  · rename_i n k hd
    split at hr
    · injection hr with hr
      injection hr with h1 h2
      subst h1 h2
      exact xnum_ok w x g A c l pos bad h hd (by assumption)
    · cases hr
theorem xnum_none (hr : rdNum l pos = none) : Calls Tryd.prog 59 #[.pointer (some ⟨x, 0, none⟩)] w (XBad w x g A c l (.int .i64 0)) := by
  unfold rdNum at hr
  split at hr
  · rename_i hd
    exact xnum_no w x g A c l pos bad h hd
  · rename_i n k hd
    split at hr
    · cases hr
    · exact xnum_big w x g A c l pos bad h hd (by omega)
end
end Go.Proofs.YtemmdlanidepbaaDoor
namespace Go.Proofs.YtemmdlanidepbaaDoor
open Go.RowKit
set_option linter.unusedSimpArgs false
set_option maxRecDepth 100000

/-- the kind, which is read first -/
def First (w : World) (x g : Nat) (A : Option Addr) (c : Nat) (l : List UInt8) (e : Ending) (w' : World) : Prop :=
  ∃ z p bad, e = .returned (.int .i64 z) ∧ Hid (I64 z) ∧ XR w' x g A c l p bad ∧ Hid (Ex (fun k => k = g ∨ k = x) w w') ∧ Hid (bad = true ∧ parse l = none ∧ z = 0 ∨ bad = false ∧ rdFields (fieldsOf z) (bareM z) l p = parse l)
theorem first_any (w : World) (x g : Nat) (A : Option Addr) (c : Nat) (l : List UInt8) (h : XR w x g A c l 0 false) : Calls Tryd.prog 59 #[.pointer (some ⟨x, 0, none⟩)] w (First w x g A c l) := by
  cases hr : rdNum l 0 with
  | none =>
    refine (xnum_none w x g A c l 0 false h hr).mono ?_
    rintro e w' ⟨rfl, p, h1, h2⟩
    exact ⟨0, p, true, rfl, (show I64 0 by unfold I64; omega), h1, h2, (Or.inl ⟨rfl, by unfold parse; rw [hr], rfl⟩)⟩
  | some r =>
    obtain ⟨z, p⟩ := r
    refine (xnum_some w x g A c l 0 false h hr).mono ?_
    rintro e w' ⟨rfl, h1, h2⟩
    exact ⟨z, p, false, rfl, i64_of (rdNum_range hr), h1, h2, (Or.inr ⟨rfl, by unfold parse; rw [hr]⟩)⟩
/-- a number, which is read then -/
def Next (w : World) (x g : Nat) (A : Option Addr) (c : Nat) (l : List UInt8) (pos : Nat) (e : Ending) (w' : World) : Prop :=
  ∃ z p bad, e = .returned (.int .i64 z) ∧ XR w' x g A c l p bad ∧ Hid (Ex (fun k => k = g ∨ k = x) w w') ∧ Hid (bad = true ∧ rdNum l pos = none ∨ bad = false ∧ rdNum l pos = some (z, p))
theorem next_any (w : World) (x g : Nat) (A : Option Addr) (c : Nat) (l : List UInt8) (pos : Nat) (h : XR w x g A c l pos false) : Calls Tryd.prog 59 #[.pointer (some ⟨x, 0, none⟩)] w (Next w x g A c l pos) := by
  cases hr : rdNum l pos with
  | none =>
    refine (xnum_none w x g A c l pos false h hr).mono ?_
    rintro e w' ⟨rfl, p, h1, h2⟩
    exact ⟨0, p, true, rfl, h1, h2, (Or.inl ⟨rfl, hr⟩)⟩
  | some r =>
    obtain ⟨z, p⟩ := r
    refine (xnum_some w x g A c l pos false h hr).mono ?_
    rintro e w' ⟨rfl, h1, h2⟩
    exact ⟨z, p, false, rfl, h1, h2, (Or.inr ⟨rfl, hr⟩)⟩
theorem rFieldsO'_any (k : Int) (w : World) : Calls Tryd.prog 21 #[.int .i64 k] w (FldsO w (fieldsOf k)) := by
  by_cases h : 1 ≤ k ∧ k ≤ 13
  · exact rFieldsO_any k h w
  · rw [fieldsOf_out h]
    have e1 : (k == 1) = false := by simp; omega
    have e2 : (k == 2) = false := by simp; omega
    have e3 : (k == 3) = false := by simp; omega
    have e4 : (k == 4) = false := by simp; omega
    have e5 : (k == 5) = false := by simp; omega
    have e6 : (k == 6) = false := by simp; omega
    have e7 : (k == 7) = false := by simp; omega
    have e8 : (k == 8) = false := by simp; omega
    have e9 : (k == 9) = false := by simp; omega
    have e10 : (k == 10) = false := by simp; omega
    have e11 : (k == 11) = false := by simp; omega
    have e12 : (k == 12) = false := by simp; omega
    have e13 : (k == 13) = false := by simp; omega
    clear h
    go_enter Tryd.func21, Tryd.ntmps21
    go_wp2_with fail
    go_ret
    exact ⟨none, 0, rfl, World.ownsRow_nil _ _ _ _, Below.refl _ _⟩
/-- a flag, which is read then -/
def NextF (w : World) (g : Nat) (A : Option Addr) (c : Nat) (l : List UInt8) (pos : Nat) (e : Ending) (w' : World) : Prop :=
  ∃ b p q, e = .returned (.tuple #[.bool b, .int .i64 q]) ∧ RRdr w' g A c l p ∧ Hid (w.grownBy w' (some g)) ∧ Hid (q = 4 ∧ rdFlg l pos = none ∨ q = 0 ∧ rdFlg l pos = some (b, p))
theorem nextF_any (w : World) (g : Nat) (A : Option Addr) (c : Nat) (l : List UInt8) (pos : Nat) (h : RRdr w g A c l pos) : Calls Tryd.prog 60 #[.pointer (some ⟨g, 0, none⟩)] w (NextF w g A c l pos) := by
  cases hd : l.drop pos with
  | nil =>
    have hp : pos = l.length := by
      have := congrArg List.length hd
      have := h.pos_le
      simp at *
      omega
    refine (rrFlag_end w g A c l pos h hp).mono ?_
    rintro e w' ⟨rfl, h1, h2⟩
    exact ⟨_, _, _, rfl, h1, h2, Or.inl ⟨rfl, by unfold rdFlg; rw [hd]⟩⟩
  | cons b r =>
    by_cases hb : b.toNat ≤ 1
    · refine (rrFlag_ok w g A c l pos h hd hb).mono ?_
      rintro e w' ⟨rfl, h1, h2⟩
      exact ⟨_, _, _, rfl, h1, h2, Or.inr ⟨rfl, by unfold rdFlg; rw [hd]; simp [hb]⟩⟩
    · refine (rrFlag_bad w g A c l pos h hd (by omega)).mono ?_
      rintro e w' ⟨rfl, h1, h2⟩
      exact ⟨_, _, _, rfl, h1, h2, Or.inl ⟨rfl, by unfold rdFlg; rw [hd]; simp [hb]⟩⟩
/-- a body, which is read then -/
def NextB (w : World) (g : Nat) (A : Option Addr) (c : Nat) (l : List UInt8) (pos : Nat) (e : Ending) (w' : World) : Prop :=
  ∃ v news p q, e = .returned (.tuple #[v, .int .i64 q]) ∧ w'.ownsRow w.heap.size 5 1 v news.length (bv news) ∧ RRdr w' g A c l p ∧ Hid (w.grownBy w' (some g)) ∧ Hid (news.length ≤ 96 ∧ ((q = 3 ∨ q = 4) ∧ rdBody l pos = none ∧ news = [] ∨ q = 0 ∧ rdBody l pos = some (news, p)))
theorem nextB_any (w : World) (g : Nat) (A : Option Addr) (c : Nat) (l : List UInt8) (pos : Nat) (h : RRdr w g A c l pos) : Calls Tryd.prog 61 #[.pointer (some ⟨g, 0, none⟩), .int .i64 96] w (NextB w g A c l pos) := by
  rcases rdBody_cases l pos with ⟨hd, hr⟩ | ⟨y, k, hd, hy, hr⟩ | ⟨y, k, hd, hy, hs, hr⟩ | ⟨y, k, hd, hy, hs, hr⟩
  · refine (rrBytes_no w g A c l pos h 96 hd).mono ?_
    rintro e w' ⟨rfl, h1, h2⟩
    exact ⟨_, [], _, _, rfl, World.ownsRow_nil _ _ _ _, h1, h2, by decide, Or.inl ⟨.inr rfl, hr, rfl⟩⟩
  · refine (rrBytes_long w g A c l pos h 96 (by decide) (by decide) hd (by omega)).mono ?_
    rintro e w' ⟨rfl, h1, h2⟩
    exact ⟨_, [], _, _, rfl, World.ownsRow_nil _ _ _ _, h1, h2, by decide, Or.inl ⟨.inl rfl, hr, rfl⟩⟩
  · refine (rrBytes_short w g A c l pos h 96 (by decide) hd (by omega) hs).mono ?_
    rintro e w' ⟨rfl, h1, h2⟩
    exact ⟨_, [], _, _, rfl, World.ownsRow_nil _ _ _ _, h1, h2, by decide, Or.inl ⟨.inr rfl, hr, rfl⟩⟩
  · refine (rrBytes_ok w g A c l pos h 96 (by decide) hd (by omega) hs).mono ?_
    rintro e w' ⟨v, rfl, ho, h1, h2⟩
    exact ⟨v, _, _, _, rfl, ho, h1, h2, by rw [List.length_take]; omega, Or.inr ⟨rfl, hr⟩⟩
theorem refRead_results (tmps : Array Value) (w : World) (px : Nat) (cs : Array Value) (z : Int) (hp : tmps.getD 2 undef = .pointer (some ⟨px, 0, none⟩)) (hq : tmps.getD 3 undef = .int .i64 z) (hs : cs.size = 103)
    (hx : w.heap[px]? = some (.cells cs 27 (0, 0))) : (results Tryd.f16 tmps).run Tryd.prog w = .ok (.tuple #[.agg cs, .int .i64 z]) w := by
  have hp' : tmps[2]?.getD undef = .pointer (some ⟨px, 0, none⟩) := by simpa using hp
  have hq' : tmps[3]?.getD undef = .int .i64 z := by simpa using hq
  have l1 := run_loadVar_row (P := Tryd.prog) w px 27 27 cs (0, 0) _ hx Tryd.underlying27 rfl (by rw [hs]; exact infoMsg)
  have h : Tryd.f16.results = #[.cell 2 27, .tmp 3] := rfl
  simp [results, h, hp', hq', asAddr, l1]
theorem refRead_end {w0 W : World} {a : Act} {px : Nat} {cs : Array Value} {z : Int} (hp : a.tmps.getD 2 undef = .pointer (some ⟨px, 0, none⟩)) (hq : a.tmps.getD 3 undef = .int .i64 z) (hd : a.defers = []) (hs : cs.size = 103) (hx : W.heap[px]? = some (.cells cs 27 (0, 0))) (hb : Below w0.heap.size w0 W) :
    bodyPost Tryd.prog Tryd.f16 (ReadR w0 (cs, z)) .ret a W := bodyPost_ret (v := .tuple #[.agg cs, .int .i64 z]) (refRead_results a.tmps W px cs z hp hq hs hx) hd ⟨rfl, hb⟩
theorem readV_none' {l : List UInt8} (hl : l.length ≤ 256) (h : readM l = none) : readV l = (Tryd.zeroCells27, 4) := by rw [readV_short hl, h]
theorem readV_some' {l : List UInt8} {m : Msg} (hl : l.length ≤ 256) (h : readM l = some m) : readV l = (mcells m, 0) := by rw [readV_short hl, h]
/-- what the document reads -/
theorem readM_ref {l : List UInt8} : readM l = match parse l with
    | some (m, _) => if mayM m = true ∧ putB m = l then some m else none
    | none => none := by
  unfold readM
  cases hp : parse l with
  | none => rfl
  | some r =>
    obtain ⟨m, p⟩ := r
    simp only
    split
    · rename_i hlt
      rw [if_neg]
      rintro ⟨h1, h2⟩
      have h3 := parse_put (parse_ok hp) h1 []
      rw [List.append_nil, h2, hp] at h3
      injection h3 with h3
      injection h3 with _ h3
      omega
    · rfl
theorem rdM_next {m : Msg} {f : Int} {F : List Int} {l : List UInt8} {pos : Nat} {r : Option (Msg × Nat)} (h : rdFields (f :: F) m l pos = r) : (rdField m f l pos = none ∧ r = none) ∨ ∃ m1 p1, rdField m f l pos = some (m1, p1) ∧ rdFields F m1 l p1 = r := by
  simp only [rdFields] at h
  cases hf : rdField m f l pos with
  | none => rw [hf] at h; exact .inl ⟨rfl, h.symm⟩
  | some q => obtain ⟨m1, p1⟩ := q; rw [hf] at h; exact .inr ⟨m1, p1, rfl, h⟩
theorem ex3 {w w' : World} {g x b : Nat} (h : Ex (fun k => k = g ∨ k = x) w w') : Ex (fun k => k = g ∨ k = x ∨ k = b) w w' :=
  ⟨h.os, h.tape, h.output, h.size, fun k hk hn => h.block k hk (fun e => hn (e.elim .inl (fun e => .inr (.inl e))))⟩
theorem ex_b {w w' : World} {g x b : Nat} (h : w.grownBy w' (some b)) : Ex (fun k => k = g ∨ k = x ∨ k = b) w w' := Ex.grown h (fun k hk => by injection hk with hk; exact .inr (.inr hk.symm))
theorem below_of_ex {T : Nat → Prop} {B : Nat} {w w' : World} (h : Ex T w w') (hT : ∀ k, T k → B ≤ k) (hB : B ≤ w.heap.size) : Below B w w' := ⟨h.os, h.tape, h.output, h.size, fun k hk => h.block k (by omega) (fun e => by have := hT k e; omega)⟩
theorem mset_body (m : Msg) (q : Nat) (b : UInt8) : (mcells m).setIfInBounds (7 + q) (.int .u8 (b.toNat : Int)) = mcells { m with body := m.body.set q b } := by
  simp only [mcells, List.setIfInBounds_toArray]
  congr 1
  rw [List.set_append_right _ _ (by simp)]
  simp [bv, List.map_set]
theorem body_step {news B : List UInt8} {q : Nat} (h1 : q < news.length) (h2 : news.length ≤ B.length) : (news.take q ++ B.drop q).set q news[q] = news.take (q + 1) ++ B.drop (q + 1) := by
  have hl : (news.take q).length = q := by rw [List.length_take]; omega
  rw [List.set_append_right _ _ (by omega), hl, Nat.sub_self, List.drop_eq_getElem_cons (by omega : q < B.length), List.set_cons_zero, List.take_succ_eq_append_getElem h1, List.append_assoc]
  rfl
/-- a step whose guard says no; its slot is named -/
theorem seq_skip {P : Program} {ops : Array Oper} {Q : Exit → Act → World → Prop} {T : Nat → Prop} {Bk : List Nat} {i : Nat} {b : Bool} {o : Oper} {a : Act} {w : World} {rest : List (Nat × Bool)} (d : Option Nat) (ho : ops[i]? = some o) (hd : o.dst = d) (hw : Region.wanted o (yielded ops a.tmps) = false)
    (h : wpSeq P ops Q T Bk rest (a.put d undef) w) : wpSeq P ops Q T Bk ((i, b) :: rest) a w := seq_off ho hw (by rw [hd]; exact h)
theorem readV_400 {l : List UInt8} (hl : l.length ≤ 256) (h : parse l = none) : readV l = (Tryd.zeroCells27, 4) := readV_none' hl (by rw [readM_ref, h])
end Go.Proofs.YtemmdlanidepbaaDoor
