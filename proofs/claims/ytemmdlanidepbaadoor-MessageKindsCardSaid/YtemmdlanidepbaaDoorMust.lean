/- Contracts of must, number: what is read, or a panic. -/
import Derived.Test.YtemmdlanidepbaaDoorOf
import Derived.Test.YtemmdlanidepbaaDoorRdBytes
namespace Go.Proofs.YtemmdlanidepbaaDoor
open Go.RowKit
set_option linter.unusedSimpArgs false
set_option maxRecDepth 100000

/-- what gives up what reads -/
def WRONG : List PanicEntry := [{ v := .iface 115 (.agg #[]), recovered := false }]
/-- one result, and a reader (block g) that stands at pos; no other block has turned -/
def Rd1 (w : World) (g : Nat) (ad : Addr) (c : Nat) (l : List UInt8) (pos : Nat) (v : Value) (e : Ending) (w' : World) : Prop :=
  e = .returned v ∧ Rdr w' g ad c l pos ∧ w.grownBy w' (some g)
/-- given up -/
def Gone (w : World) (g : Nat) (ad : Addr) (c : Nat) (l : List UInt8) (e : Ending) (w' : World) : Prop :=
  e = .panicked WRONG ∧ ∃ p, Rdr w' g ad c l p ∧ w.grownBy w' (some g)

theorem must_u64 (x : Value) (w : World) : Calls Tryd.prog 74 #[x, .int .i64 0] w (fun e w' => e = .returned x ∧ w = w') := by
  go_enter Tryd.func74, Tryd.ntmps74
  go_wp2_with fail
  go_ret
  exact ⟨rfl, rfl⟩
theorem must_u64_bad (x : Value) (z : Int) (hz : z ≠ 0) (w : World) : Calls Tryd.prog 74 #[x, .int .i64 z] w (fun e w' => e = .panicked WRONG ∧ w = w') := by
  have e0 : (z == 0) = false := by simp [hz]
  have e1 : (z != 0) = true := by simp [hz]
  go_enter Tryd.func74, Tryd.ntmps74
  go_wp2_with fail
  exact ⟨rfl, rfl, rfl⟩

theorem must_int (x : Value) (w : World) : Calls Tryd.prog 72 #[x, .int .i64 0] w (fun e w' => e = .returned x ∧ w = w') := by
  go_enter Tryd.func72, Tryd.ntmps72
  go_wp2_with fail
  go_ret
  exact ⟨rfl, rfl⟩
theorem must_int_bad (x : Value) (z : Int) (hz : z ≠ 0) (w : World) : Calls Tryd.prog 72 #[x, .int .i64 z] w (fun e w' => e = .panicked WRONG ∧ w = w') := by
  have e0 : (z == 0) = false := by simp [hz]
  have e1 : (z != 0) = true := by simp [hz]
  go_enter Tryd.func72, Tryd.ntmps72
  go_wp2_with fail
  exact ⟨rfl, rfl, rfl⟩

theorem must_bool (x : Value) (w : World) : Calls Tryd.prog 50 #[x, .int .i64 0] w (fun e w' => e = .returned x ∧ w = w') := by
  go_enter Tryd.func50, Tryd.ntmps50
  go_wp2_with fail
  go_ret
  exact ⟨rfl, rfl⟩
theorem must_bool_bad (x : Value) (z : Int) (hz : z ≠ 0) (w : World) : Calls Tryd.prog 50 #[x, .int .i64 z] w (fun e w' => e = .panicked WRONG ∧ w = w') := by
  have e0 : (z == 0) = false := by simp [hz]
  have e1 : (z != 0) = true := by simp [hz]
  go_enter Tryd.func50, Tryd.ntmps50
  go_wp2_with fail
  exact ⟨rfl, rfl, rfl⟩

theorem must_bytes (x : Value) (w : World) : Calls Tryd.prog 52 #[x, .int .i64 0] w (fun e w' => e = .returned x ∧ w = w') := by
  go_enter Tryd.func52, Tryd.ntmps52
  go_wp2_with fail
  go_ret
  exact ⟨rfl, rfl⟩
theorem must_bytes_bad (x : Value) (z : Int) (hz : z ≠ 0) (w : World) : Calls Tryd.prog 52 #[x, .int .i64 z] w (fun e w' => e = .panicked WRONG ∧ w = w') := by
  have e0 : (z == 0) = false := by simp [hz]
  have e1 : (z != 0) = true := by simp [hz]
  go_enter Tryd.func52, Tryd.ntmps52
  go_wp2_with fail
  exact ⟨rfl, rfl, rfl⟩

section
variable (w : World) (g : Nat) (ad : Addr) (c : Nat) (l : List UInt8) (pos : Nat) (h : Rdr w g ad c l pos)
include h

theorem number_kind {x k : Nat} (hd : dec 0 0 (l.drop pos) = some (x, k)) (hx : x ≤ 4611686018427387904) :
    Calls Tryd.prog 46 #[.pointer (some ⟨g, 0, none⟩)] w (Rd1 w g ad c l (pos + k) (.int .i64 (x : Int))) := by
  have HN := Lib.hid (rdNumber_ok _ _ _ _ _ _ h hd)
  clear hd
  have hw : IntKind.i64.wrap (x : Int) = x := IntWalk.i64_in _ (by omega)
  have e0 : decide (4611686018427387904 < (x : Int)) = false := by simp; omega
  go_enter Tryd.func46, Tryd.ntmps46
  go_wp2_with fail
  refine HN.out.mono ?_
  rintro e w1 ⟨rfl, hr, hg⟩
  go_wp2_with fail
  refine (must_u64 _ _).mono ?_
  rintro e w' ⟨rfl, rfl⟩
  go_wp2_with fail
  go_ret
  exact ⟨rfl, hr, hg⟩
theorem number_kind_no (hd : dec 0 0 (l.drop pos) = none) :
    Calls Tryd.prog 46 #[.pointer (some ⟨g, 0, none⟩)] w (Gone w g ad c l) := by
  have HN := Lib.hid (rdNumber_no _ _ _ _ _ _ h hd)
  clear hd
  go_enter Tryd.func46, Tryd.ntmps46
  go_wp2_with fail
  refine HN.out.mono ?_
  rintro e w1 ⟨rfl, hr, hg⟩
  go_wp2_with fail
  refine (must_u64_bad _ 4 (by decide) _).mono ?_
  rintro e w' ⟨rfl, rfl⟩
  exact ⟨rfl, rfl, _, hr, hg⟩
theorem number_kind_big {x k : Nat} (hd : dec 0 0 (l.drop pos) = some (x, k)) (hx : 4611686018427387904 < x) :
    Calls Tryd.prog 46 #[.pointer (some ⟨g, 0, none⟩)] w (Gone w g ad c l) := by
  have HN := Lib.hid (rdNumber_ok _ _ _ _ _ _ h hd)
  clear hd
  have e0 : decide (4611686018427387904 < (x : Int)) = true := by simp; omega
  go_enter Tryd.func46, Tryd.ntmps46
  go_wp2_with fail
  refine HN.out.mono ?_
  rintro e w1 ⟨rfl, hr, hg⟩
  go_wp2_with fail
  refine (must_u64 _ _).mono ?_
  rintro e w' ⟨rfl, rfl⟩
  go_wp2_with fail
  exact ⟨rfl, rfl, _, hr, hg⟩

theorem number_int {x k : Nat} (hd : dec 0 0 (l.drop pos) = some (x, k)) (hx : x ≤ 4611686018427387904) :
    Calls Tryd.prog 47 #[.pointer (some ⟨g, 0, none⟩)] w (Rd1 w g ad c l (pos + k) (.int .i64 (x : Int))) := by
  have HN := Lib.hid (rdNumber_ok _ _ _ _ _ _ h hd)
  clear hd
  have hw : IntKind.i64.wrap (x : Int) = x := IntWalk.i64_in _ (by omega)
  have e0 : decide (4611686018427387904 < (x : Int)) = false := by simp; omega
  go_enter Tryd.func47, Tryd.ntmps47
  go_wp2_with fail
  refine HN.out.mono ?_
  rintro e w1 ⟨rfl, hr, hg⟩
  go_wp2_with fail
  refine (must_u64 _ _).mono ?_
  rintro e w' ⟨rfl, rfl⟩
  go_wp2_with fail
  go_ret
  exact ⟨rfl, hr, hg⟩
theorem number_int_no (hd : dec 0 0 (l.drop pos) = none) :
    Calls Tryd.prog 47 #[.pointer (some ⟨g, 0, none⟩)] w (Gone w g ad c l) := by
  have HN := Lib.hid (rdNumber_no _ _ _ _ _ _ h hd)
  clear hd
  go_enter Tryd.func47, Tryd.ntmps47
  go_wp2_with fail
  refine HN.out.mono ?_
  rintro e w1 ⟨rfl, hr, hg⟩
  go_wp2_with fail
  refine (must_u64_bad _ 4 (by decide) _).mono ?_
  rintro e w' ⟨rfl, rfl⟩
  exact ⟨rfl, rfl, _, hr, hg⟩
theorem number_int_big {x k : Nat} (hd : dec 0 0 (l.drop pos) = some (x, k)) (hx : 4611686018427387904 < x) :
    Calls Tryd.prog 47 #[.pointer (some ⟨g, 0, none⟩)] w (Gone w g ad c l) := by
  have HN := Lib.hid (rdNumber_ok _ _ _ _ _ _ h hd)
  clear hd
  have e0 : decide (4611686018427387904 < (x : Int)) = true := by simp; omega
  go_enter Tryd.func47, Tryd.ntmps47
  go_wp2_with fail
  refine HN.out.mono ?_
  rintro e w1 ⟨rfl, hr, hg⟩
  go_wp2_with fail
  refine (must_u64 _ _).mono ?_
  rintro e w' ⟨rfl, rfl⟩
  go_wp2_with fail
  exact ⟨rfl, rfl, _, hr, hg⟩

theorem number_i64 {x k : Nat} (hd : dec 0 0 (l.drop pos) = some (x, k)) (hx : x ≤ 4611686018427387904) :
    Calls Tryd.prog 48 #[.pointer (some ⟨g, 0, none⟩)] w (Rd1 w g ad c l (pos + k) (.int .i64 (x : Int))) := by
  have HN := Lib.hid (rdNumber_ok _ _ _ _ _ _ h hd)
  clear hd
  have hw : IntKind.i64.wrap (x : Int) = x := IntWalk.i64_in _ (by omega)
  have e0 : decide (4611686018427387904 < (x : Int)) = false := by simp; omega
  go_enter Tryd.func48, Tryd.ntmps48
  go_wp2_with fail
  refine HN.out.mono ?_
  rintro e w1 ⟨rfl, hr, hg⟩
  go_wp2_with fail
  refine (must_u64 _ _).mono ?_
  rintro e w' ⟨rfl, rfl⟩
  go_wp2_with fail
  go_ret
  exact ⟨rfl, hr, hg⟩
theorem number_i64_no (hd : dec 0 0 (l.drop pos) = none) :
    Calls Tryd.prog 48 #[.pointer (some ⟨g, 0, none⟩)] w (Gone w g ad c l) := by
  have HN := Lib.hid (rdNumber_no _ _ _ _ _ _ h hd)
  clear hd
  go_enter Tryd.func48, Tryd.ntmps48
  go_wp2_with fail
  refine HN.out.mono ?_
  rintro e w1 ⟨rfl, hr, hg⟩
  go_wp2_with fail
  refine (must_u64_bad _ 4 (by decide) _).mono ?_
  rintro e w' ⟨rfl, rfl⟩
  exact ⟨rfl, rfl, _, hr, hg⟩
theorem number_i64_big {x k : Nat} (hd : dec 0 0 (l.drop pos) = some (x, k)) (hx : 4611686018427387904 < x) :
    Calls Tryd.prog 48 #[.pointer (some ⟨g, 0, none⟩)] w (Gone w g ad c l) := by
  have HN := Lib.hid (rdNumber_ok _ _ _ _ _ _ h hd)
  clear hd
  have e0 : decide (4611686018427387904 < (x : Int)) = true := by simp; omega
  go_enter Tryd.func48, Tryd.ntmps48
  go_wp2_with fail
  refine HN.out.mono ?_
  rintro e w1 ⟨rfl, hr, hg⟩
  go_wp2_with fail
  refine (must_u64 _ _).mono ?_
  rintro e w' ⟨rfl, rfl⟩
  go_wp2_with fail
  exact ⟨rfl, rfl, _, hr, hg⟩

theorem number_mode {x k : Nat} (hd : dec 0 0 (l.drop pos) = some (x, k)) (hx : x ≤ 4611686018427387904) :
    Calls Tryd.prog 49 #[.pointer (some ⟨g, 0, none⟩)] w (Rd1 w g ad c l (pos + k) (.int .i64 (x : Int))) := by
  have HN := Lib.hid (rdNumber_ok _ _ _ _ _ _ h hd)
  clear hd
  have hw : IntKind.i64.wrap (x : Int) = x := IntWalk.i64_in _ (by omega)
  have e0 : decide (4611686018427387904 < (x : Int)) = false := by simp; omega
  go_enter Tryd.func49, Tryd.ntmps49
  go_wp2_with fail
  refine HN.out.mono ?_
  rintro e w1 ⟨rfl, hr, hg⟩
  go_wp2_with fail
  refine (must_u64 _ _).mono ?_
  rintro e w' ⟨rfl, rfl⟩
  go_wp2_with fail
  go_ret
  exact ⟨rfl, hr, hg⟩
theorem number_mode_no (hd : dec 0 0 (l.drop pos) = none) :
    Calls Tryd.prog 49 #[.pointer (some ⟨g, 0, none⟩)] w (Gone w g ad c l) := by
  have HN := Lib.hid (rdNumber_no _ _ _ _ _ _ h hd)
  clear hd
  go_enter Tryd.func49, Tryd.ntmps49
  go_wp2_with fail
  refine HN.out.mono ?_
  rintro e w1 ⟨rfl, hr, hg⟩
  go_wp2_with fail
  refine (must_u64_bad _ 4 (by decide) _).mono ?_
  rintro e w' ⟨rfl, rfl⟩
  exact ⟨rfl, rfl, _, hr, hg⟩
theorem number_mode_big {x k : Nat} (hd : dec 0 0 (l.drop pos) = some (x, k)) (hx : 4611686018427387904 < x) :
    Calls Tryd.prog 49 #[.pointer (some ⟨g, 0, none⟩)] w (Gone w g ad c l) := by
  have HN := Lib.hid (rdNumber_ok _ _ _ _ _ _ h hd)
  clear hd
  have e0 : decide (4611686018427387904 < (x : Int)) = true := by simp; omega
  go_enter Tryd.func49, Tryd.ntmps49
  go_wp2_with fail
  refine HN.out.mono ?_
  rintro e w1 ⟨rfl, hr, hg⟩
  go_wp2_with fail
  refine (must_u64 _ _).mono ?_
  rintro e w' ⟨rfl, rfl⟩
  go_wp2_with fail
  exact ⟨rfl, rfl, _, hr, hg⟩

end
end Go.Proofs.YtemmdlanidepbaaDoor
