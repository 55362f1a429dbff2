/- Contract of the law's step: one call of both readers. -/
import Derived.Test.YtemmdlanidepbaaRef4
import Derived.Test.YtemmdlanidepbaaKnown
namespace Go.Proofs.Ytemmdlanidepbaa
open Go.RowKit
set_option linter.unusedSimpArgs false

/-- wire's reader and the document's, over the same bytes, at the same place -/
structure Both (w : World) (g : Nat) (ad : Addr) (c gd : Nat) (A : Option Addr) (cA : Nat) (l : List UInt8) (pos : Nat) : Prop where
  r : Rdr w g ad c l pos
  d : RRdr w gd A cA l pos
  ne : g ≠ gd
  n1 : ad.block ≠ gd
  n2 : ∀ a, A = some a → a.block ≠ g
section
variable {w w1 w2 w3 : World} {g : Nat} {ad : Addr} {c gd : Nat} {A : Option Addr} {cA : Nat} {l : List UInt8} {pos p : Nat}
theorem Both.below (b : Both w g ad c gd A cA l pos) (hb : Below w.heap.size w w1) : Both w1 g ad c gd A cA l pos := ⟨b.r.below hb, b.d.below hb, b.ne, b.n1, b.n2⟩
/-- behind a call of the document's reader, wire's stands where it stood -/
theorem Both.keep (b : Both w g ad c gd A cA l pos) (hr : Rdr w1 g ad c l p) (hg : w1.grownBy w2 (some gd)) : Rdr w2 g ad c l p :=
  hr.move hg (fun e => b.ne (by injection e)) (fun e => b.n1 (by injection e))
/-- behind a call of wire's reader, the document's stands where it stood -/
theorem Both.other (b : Both w g ad c gd A cA l pos) (hg : w.grownBy w1 (some g)) : RRdr w1 gd A cA l pos :=
  b.d.move hg (fun e => b.ne (by injection e with e; exact e.symm)) (fun a ha e => b.n2 a ha (by injection e))
theorem Both.join (b : Both w g ad c gd A cA l pos) (hr : Rdr w2 g ad c l p) (hd : RRdr w2 gd A cA l p) : Both w2 g ad c gd A cA l p := ⟨hr, hd, b.ne, b.n1, b.n2⟩
theorem Both.off (b : Both w g ad c gd A cA l pos) (b2 : Both w2 g ad c gd A cA l p) {k : Nat} (hg : w2.grownBy w3 (some k)) (hk : w.heap.size ≤ k) : Both w3 g ad c gd A cA l p :=
  ⟨b.r.off b2.r hg hk, b.d.off b2.d hg hk, b.ne, b.n1, b.n2⟩
end
/-- but for these blocks, what was there is as it was -/
theorem ex_two {w w1 : World} {g gd : Nat} (hg : w.grownBy w1 (some g)) : Ex (fun k => k = g ∨ k = gd) w w1 := Ex.grown hg (fun k hk => by injection hk with hk; exact .inl hk.symm)
theorem ex_two' {w w1 : World} {g gd : Nat} (hg : w.grownBy w1 (some gd)) : Ex (fun k => k = g ∨ k = gd) w w1 := Ex.grown hg (fun k hk => by injection hk with hk; exact .inr hk.symm)
theorem ex_new {w w1 w2 : World} {T : Nat → Prop} {k : Nat} (h : Ex T w w1) (hg : w1.grownBy w2 (some k)) (hk : w.heap.size ≤ k) : Ex T w w2 :=
  ⟨hg.os.trans h.os, hg.tape.trans h.tape, hg.output.trans h.output, Nat.le_trans h.size hg.size, fun i hi hT => (hg.block i (Nat.lt_of_lt_of_le hi h.size) (fun e => by injection e with e; omega)).trans (h.block i hi hT)⟩

/-- one step -/
def Stepped (w : World) (g : Nat) (ad : Addr) (c gd : Nat) (A : Option Addr) (cA : Nat) (l : List UInt8) (e : Ending) (w' : World) : Prop :=
  e = .returned (.bool true) ∧ ∃ pos, Both w' g ad c gd A cA l pos ∧ Ex (fun k => k = g ∨ k = gd) w w'
theorem Both.stay {w w1 : World} {g : Nat} {ad : Addr} {c gd : Nat} {A : Option Addr} {cA : Nat} {l : List UInt8} {pos : Nat} (b : Both w g ad c gd A cA l pos) (o : Obj) : Both (w.alloc o) g ad c gd A cA l pos ∧ Hid (Ex (fun k => k = g ∨ k = gd) w (w.alloc o)) :=
  have hb := (Below.refl w.heap.size w).alloc (Nat.le_refl _) o
  ⟨b.below hb, Ex.below hb⟩

section
variable (w : World) (g : Nat) (ad : Addr) (c gd : Nat) (A : Option Addr) (cA : Nat) (l : List UInt8) (pos : Nat) (b : Both w g ad c gd A cA l pos) (M : Int)
include b
set_option maxRecDepth 100000 in
set_option maxHeartbeats 2000000 in
theorem step1_of (x : Int) (e : Int) (p : Nat)
    (HN : ∀ W, Both W g ad c gd A cA l pos → Calls Try.prog 20 #[.pointer (some ⟨g, 0, none⟩)] W (Rd2 W g ad c l p (.int .u64 x) (.int .i64 e)))
    (HR : ∀ W, RRdr W gd A cA l pos → Calls Try.prog 40 #[.pointer (some ⟨gd, 0, none⟩)] W (RRd2 W gd A cA l p (.int .u64 x) (.int .i64 e))) :
    Calls Try.prog 31 #[.pointer (some ⟨g, 0, none⟩), .pointer (some ⟨gd, 0, none⟩), .agg #[.int .i64 1, .int .i64 M]] w (Stepped w g ad c gd A cA l) := by
  obtain ⟨b0, HX⟩ := b.stay (w1 := w) (.cells #[.int .i64 1, .int .i64 M] 64)
  have HN' := Lib.hid HN
  have HR' := Lib.hid HR
  clear HN HR
  go_enter Try.func31, Try.ntmps31
  go_wp2_with fail
  refine (HN'.out _ b0).mono ?_
  rintro e' w1 ⟨rfl, hr, hg⟩
  go_wp2_with fail
  refine (HR'.out _ (b0.other hg)).mono ?_
  rintro e' w2 ⟨rfl, hdd, hg2⟩
  have B := Lib.hid (b0.join (b0.keep hr hg2) hdd)
  have HX2 := Lib.hid ((HX.out.trans (ex_two hg)).trans (ex_two' hg2))
  clear hr hg hdd hg2 HN' HR' HX b0 b
  go_wp2_with fail
  refine (num_any _ _).mono ?_
  rintro e' w' ⟨rfl, rfl⟩
  go_wp2_with fail
  go_ret
  exact ⟨rfl, _, B.out, HX2.out⟩
set_option maxRecDepth 100000 in
set_option maxHeartbeats 2000000 in
theorem step2_of (x : Int) (e : Int) (p : Nat)
    (HN : ∀ W, Both W g ad c gd A cA l pos → Calls Try.prog 21 #[.pointer (some ⟨g, 0, none⟩)] W (Rd2 W g ad c l p (.int .i64 x) (.int .i64 e)))
    (HR : ∀ W, RRdr W gd A cA l pos → Calls Try.prog 41 #[.pointer (some ⟨gd, 0, none⟩)] W (RRd2 W gd A cA l p (.int .i64 x) (.int .i64 e))) :
    Calls Try.prog 31 #[.pointer (some ⟨g, 0, none⟩), .pointer (some ⟨gd, 0, none⟩), .agg #[.int .i64 2, .int .i64 M]] w (Stepped w g ad c gd A cA l) := by
  obtain ⟨b0, HX⟩ := b.stay (w1 := w) (.cells #[.int .i64 2, .int .i64 M] 64)
  have HN' := Lib.hid HN
  have HR' := Lib.hid HR
  clear HN HR
  go_enter Try.func31, Try.ntmps31
  go_wp2_with fail
  refine (HN'.out _ b0).mono ?_
  rintro e' w1 ⟨rfl, hr, hg⟩
  go_wp2_with fail
  refine (HR'.out _ (b0.other hg)).mono ?_
  rintro e' w2 ⟨rfl, hdd, hg2⟩
  have B := Lib.hid (b0.join (b0.keep hr hg2) hdd)
  have HX2 := Lib.hid ((HX.out.trans (ex_two hg)).trans (ex_two' hg2))
  clear hr hg hdd hg2 HN' HR' HX b0 b
  go_wp2_with fail
  refine (num_any _ _).mono ?_
  rintro e' w' ⟨rfl, rfl⟩
  go_wp2_with fail
  go_ret
  exact ⟨rfl, _, B.out, HX2.out⟩
set_option maxRecDepth 100000 in
set_option maxHeartbeats 2000000 in
theorem step3_of (x : Bool) (e : Int) (p : Nat)
    (HN : ∀ W, Both W g ad c gd A cA l pos → Calls Try.prog 23 #[.pointer (some ⟨g, 0, none⟩)] W (Rd2 W g ad c l p (.bool x) (.int .i64 e)))
    (HR : ∀ W, RRdr W gd A cA l pos → Calls Try.prog 42 #[.pointer (some ⟨gd, 0, none⟩)] W (RRd2 W gd A cA l p (.bool x) (.int .i64 e))) :
    Calls Try.prog 31 #[.pointer (some ⟨g, 0, none⟩), .pointer (some ⟨gd, 0, none⟩), .agg #[.int .i64 3, .int .i64 M]] w (Stepped w g ad c gd A cA l) := by
  obtain ⟨b0, HX⟩ := b.stay (w1 := w) (.cells #[.int .i64 3, .int .i64 M] 64)
  have HN' := Lib.hid HN
  have HR' := Lib.hid HR
  clear HN HR
  go_enter Try.func31, Try.ntmps31
  go_wp2_with fail
  refine (HN'.out _ b0).mono ?_
  rintro e' w1 ⟨rfl, hr, hg⟩
  go_wp2_with fail
  refine (HR'.out _ (b0.other hg)).mono ?_
  rintro e' w2 ⟨rfl, hdd, hg2⟩
  have B := Lib.hid (b0.join (b0.keep hr hg2) hdd)
  have HX2 := Lib.hid ((HX.out.trans (ex_two hg)).trans (ex_two' hg2))
  clear hr hg hdd hg2 HN' HR' HX b0 b
  go_wp2_with fail
  refine (num_any _ _).mono ?_
  rintro e' w' ⟨rfl, rfl⟩
  go_wp2_with fail
  go_ret
  exact ⟨rfl, _, B.out, HX2.out⟩
theorem step1_any : Calls Try.prog 31 #[.pointer (some ⟨g, 0, none⟩), .pointer (some ⟨gd, 0, none⟩), .agg #[.int .i64 1, .int .i64 M]] w (Stepped w g ad c gd A cA l) := by
  cases hd : dec 0 0 (l.drop pos) with
  | none => exact step1_of w g ad c gd A cA l pos b M _ _ _ (fun W h => rdNumber_no W g ad c l pos h.r hd) (fun W h => rrNumber_no W gd A cA l pos h hd)
  | some r => exact step1_of w g ad c gd A cA l pos b M _ _ _ (fun W h => rdNumber_ok W g ad c l pos h.r hd) (fun W h => rrNumber_ok W gd A cA l pos h hd)
theorem step2_any : Calls Try.prog 31 #[.pointer (some ⟨g, 0, none⟩), .pointer (some ⟨gd, 0, none⟩), .agg #[.int .i64 2, .int .i64 M]] w (Stepped w g ad c gd A cA l) := by
  cases hd : dec 0 0 (l.drop pos) with
  | none => exact step2_of w g ad c gd A cA l pos b M _ _ _ (fun W h => rdSigned_no W g ad c l pos h.r hd) (fun W h => rrSigned_no W gd A cA l pos h hd)
  | some r => exact step2_of w g ad c gd A cA l pos b M _ _ _ (fun W h => rdSigned_ok W g ad c l pos h.r hd) (fun W h => rrSigned_ok W gd A cA l pos h hd)
theorem step3_any : Calls Try.prog 31 #[.pointer (some ⟨g, 0, none⟩), .pointer (some ⟨gd, 0, none⟩), .agg #[.int .i64 3, .int .i64 M]] w (Stepped w g ad c gd A cA l) := by
  cases hd : l.drop pos with
  | nil =>
    have hp : pos = l.length := by have h1 := congrArg List.length hd; have h2 := b.r.pos_le; simp at h1; omega
    exact step3_of w g ad c gd A cA l pos b M _ _ _ (fun W h => rdFlag_end W g ad c l pos h.r hp) (fun W h => rrFlag_end W gd A cA l pos h hp)
  | cons x r =>
    by_cases hb : x.toNat ≤ 1
    · exact step3_of w g ad c gd A cA l pos b M _ _ _ (fun W h => rdFlag_ok W g ad c l pos h.r hd hb) (fun W h => rrFlag_ok W gd A cA l pos h hd hb)
    · exact step3_of w g ad c gd A cA l pos b M _ _ _ (fun W h => rdFlag_bad W g ad c l pos h.r hd (by omega)) (fun W h => rrFlag_bad W gd A cA l pos h hd (by omega))
set_option maxRecDepth 100000 in
theorem step0_any (K : Int) (h1 : K ≠ 1) (h2 : K ≠ 2) (h3 : K ≠ 3) (h4 : K ≠ 4) (h5 : K ≠ 5) :
    Calls Try.prog 31 #[.pointer (some ⟨g, 0, none⟩), .pointer (some ⟨gd, 0, none⟩), .agg #[.int .i64 K, .int .i64 M]] w (Stepped w g ad c gd A cA l) := by
  obtain ⟨b0, HX⟩ := b.stay (w1 := w) (.cells #[.int .i64 K, .int .i64 M] 64)
  have e1 : (K == 1) = false := by simp [h1]
  have e2 : (K == 2) = false := by simp [h2]
  have e3 : (K == 3) = false := by simp [h3]
  have e4 : (K == 4) = false := by simp [h4]
  have e5 : (K == 5) = false := by simp [h5]
  go_enter Try.func31, Try.ntmps31
  go_wp2_with fail
  go_ret
  exact ⟨rfl, _, b0, HX.out⟩
end
end Go.Proofs.Ytemmdlanidepbaa
