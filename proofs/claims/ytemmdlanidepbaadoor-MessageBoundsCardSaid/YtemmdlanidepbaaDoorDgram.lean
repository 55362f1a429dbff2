/- Datagrams: which may be; their bytes. -/
import Derived.Test.YtemmdlanidepbaaDoorMust
import Derived.Test.YtemmdlanidepbaaDoorBig
import Derived.Test.YtemmdlanidepbaaDoorPutWalk
namespace Go.Proofs.YtemmdlanidepbaaDoor
open Go.RowKit
set_option linter.unusedSimpArgs false
set_option maxRecDepth 100000

/-- a datagram -/
structure Dg where
  fr : Int
  dst : Int
  vw : Int
  sq : Int
  ak : Int
  body : List UInt8
/-- its cells; the body's bytes lie at A -/
def dcells (d : Dg) (A : Option Addr) (c : Nat) : Array Value := #[.int .i64 d.fr, .int .i64 d.dst, .int .i64 d.vw, .int .i64 d.sq, .int .i64 d.ak, .slice A d.body.length c]
structure Dg.Ok (d : Dg) : Prop where
  fr : I64 d.fr
  dst : I64 d.dst
  vw : I64 d.vw
  sq : I64 d.sq
  ak : I64 d.ak
def nodeB (n : Int) : Bool := decide (0 ≤ n) && decide (n < 8)
def badN (n : Int) : Bool := decide (n < 0) || decide (4611686018427387904 < n)
/-- may it be? -/
def mayD (d : Dg) : Bool := nodeB d.fr && nodeB d.dst && !(d.fr == d.dst) && !decide (256 < d.body.length) && !((d.sq == 0) && decide (0 < d.body.length)) && !(badN d.vw || (badN d.sq || badN d.ak))
theorem node_any (n : Int) (w : World) : Calls Tryd.prog 83 #[.int .i64 n] w (fun e w' => e = .returned (.bool (nodeB n)) ∧ w = w') := by
  obtain ⟨b, hb⟩ : ∃ b, nodeB n = b := ⟨_, rfl⟩
  rw [hb]
  have HR := Lib.hid hb
  clear hb
  by_cases h1 : 0 ≤ n
  · by_cases h2 : n < 8
    all_goals
      go_enter Tryd.func83, Tryd.ntmps83
      go_wp2_with fail
      go_ret
      exact ⟨by rw [← HR.out]; simp [nodeB]; omega, rfl⟩
  · go_enter Tryd.func83, Tryd.ntmps83
    go_wp2_with fail
    go_ret
    exact ⟨by rw [← HR.out]; simp [nodeB]; omega, rfl⟩
theorem bad_any (n : Int) (w : World) : Calls Tryd.prog 85 #[.int .i64 n] w (fun e w' => e = .returned (.bool (badN n)) ∧ w = w') := by
  obtain ⟨b, hb⟩ : ∃ b, badN n = b := ⟨_, rfl⟩
  rw [hb]
  have HR := Lib.hid hb
  clear hb
  by_cases h1 : n < 0
  · go_enter Tryd.func85, Tryd.ntmps85
    go_wp2_with fail
    go_ret
    exact ⟨by rw [← HR.out]; simp [badN]; omega, rfl⟩
  · by_cases h2 : 4611686018427387904 < n
    all_goals
      go_enter Tryd.func85, Tryd.ntmps85
      go_wp2_with fail
      go_ret
      exact ⟨by rw [← HR.out]; simp [badN]; omega, rfl⟩
/-- where the first bad one stands; -1: nowhere -/
def posBad : List Int → Nat → Int
  | [], _ => -1
  | x :: l, i => if badN x = true then (i : Int) else posBad l (i + 1)
theorem posBad_any : ∀ (l : List Int) (i : Nat), decide (0 ≤ posBad l i) = l.any badN
  | [], i => by simp [posBad]
  | x :: l, i => by
    rw [posBad]
    by_cases h : badN x = true
    · rw [if_pos h]; simp [h]
    · rw [if_neg h, posBad_any l (i + 1)]; simp [h]
theorem posBad_drop (l : List Int) (j : Nat) (hj : j < l.length) : posBad (l.drop j) j = if badN l[j] = true then (j : Int) else posBad (l.drop (j + 1)) (j + 1) := by
  rw [List.drop_eq_getElem_cons hj, posBad]
theorem indexFunc_any (A : Option Addr) (c : Nat) (l : List Int) (w : World) (hA : At w A (iv l)) (hl : l.length ≤ 1000) :
    Calls Tryd.prog 90 #[.slice A l.length c, .func (.func 85) #[] #[]] w (fun e w' => e = .returned (.int .i64 (posBad l 0)) ∧ w = w') := by
  go_enter Tryd.func90, Tryd.ntmps90
  go_wp2_with fail
  go_loopg [8] l.length (fun kk i wr => ∃ j : Nat, i = .int .i64 (j : Int) ∧ Hid (j + kk = l.length ∧ posBad (l.drop j) j = posBad l 0) ∧ w = wr)
  case atStart => exact ⟨0, rfl, ⟨Nat.zero_add _, rfl⟩, rfl⟩
  case round =>
    obtain ⟨j, rfl, hj, rfl⟩ := hrel
    by_cases hlt : j < l.length
    · obtain ⟨x, hx⟩ : ∃ x, l[j] = x := ⟨_, rfl⟩
      have hpd := posBad_drop l j hlt
      rw [hx] at hpd
      obtain ⟨ad, rfl, hcell⟩ := hA j (.int .i64 x) (by simp [iv, List.getElem?_eq_getElem hlt, hx])
      have HB := Lib.hid (fun u => bad_any x u)
      cases hv : badN x with
      | true =>
        rw [hv] at HB
        rw [hv, if_pos rfl] at hpd
        have HP := Lib.hid (hpd.symm.trans hj.out.2)
        clear hpd hv hx
        go_wp2_with fail
        refine (HB.out _).mono ?_
        rintro e w' ⟨rfl, rfl⟩
        go_wp2_with fail
        all_goals
          (try rw [Exit.noGoto_ret])
          go_ret
          exact ⟨by rw [HP.out]; rfl, rfl⟩
      | false =>
        rw [hv] at HB
        rw [hv, if_neg (by decide)] at hpd
        have HP := Lib.hid (hpd.symm.trans hj.out.2)
        clear hpd hv hx
        go_wp2_with fail
        refine (HB.out _).mono ?_
        rintro e w' ⟨rfl, rfl⟩
        go_wp2_with fail
        go_roundg (gk - 1)
        case measure => have := hj.out; omega
        case rel => exact ⟨j + 1, (by go_num), ⟨(by have := hj.out; omega), HP.out⟩, rfl⟩
    · have e : posBad l 0 = -1 := by rw [← hj.out.2, List.drop_eq_nil_of_le (by omega)]; rfl
      go_wp2_with fail
      go_ret
      exact ⟨by rw [e]; rfl, rfl⟩
theorem containsFunc_any (A : Option Addr) (c : Nat) (l : List Int) (w : World) (hA : At w A (iv l)) (hl : l.length ≤ 1000) :
    Calls Tryd.prog 84 #[.slice A l.length c, .func (.func 85) #[] #[]] w (fun e w' => e = .returned (.bool (l.any badN)) ∧ w = w') := by
  have HI := Lib.hid (indexFunc_any A c l w hA hl)
  obtain ⟨b, hb⟩ : ∃ b, l.any badN = b := ⟨_, rfl⟩
  have hp := posBad_any l 0
  rw [hb] at hp ⊢
  clear hb
  generalize posBad l 0 = z at *
  go_enter Tryd.func84, Tryd.ntmps84
  go_wp2_with fail
  refine HI.out.mono ?_
  rintro e w' ⟨rfl, rfl⟩
  go_wp2_with fail
  go_ret
  exact ⟨rfl, rfl⟩
theorem infoDg : (Tryd.prog.info? 53).map (·.size) = some 6 := by kernel_rfl
theorem dcells_size (d : Dg) (A : Option Addr) (c : Nat) : (dcells d A c).size = 6 := rfl
def OkD (w : World) (b : Bool) (e : Ending) (w' : World) : Prop := e = .returned (.bool b) ∧ Below w.heap.size w w'
end Go.Proofs.YtemmdlanidepbaaDoor
