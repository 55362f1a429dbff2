/- The law PoolClock, walked. -/
import Derived.Test.YtjbjfpbhacpeiaaL6
import Derived.Test.YtjbjfpbhacpeiaaL5
namespace Go.Proofs.Ytjbjfpbhacpeiaa
open Go.RowKit
set_option linter.unusedSimpArgs false
set_option linter.unusedVariables false
set_option maxRecDepth 100000

set_option maxHeartbeats 16000000 in
theorem clock_walk (w : World) (n : Int) (A : Option Addr) (c : Nat) (L : List St) (hA : At w A (L.flatMap stcells)) (hL : ∀ x ∈ L, x.Ok) :
    Calls Try.prog 5 #[.int .i64 n, .slice A L.length c] w (fun e w' => e = .returned (.bool true) ∧ Below w.heap.size w w') := by
  have HL := Lib.hid hL
  have HA := Lib.hid hA
  clear hA hL
  go_enter Try.func5, Try.ntmps5
  go_wp2_with fail
  refine (known_any w).mono ?_
  rintro e w0 ⟨rfl, hb0⟩
  have HB0 := Lib.hid hb0
  have hs0 := hb0.size
  clear hb0
  by_cases h1 : 1 ≤ n ∧ n ≤ 16
  · obtain ⟨k, rfl⟩ : ∃ k : Nat, (k : Int) = n := ⟨n.toNat, by omega⟩
    have HN := Lib.hid (new_yes k (by omega) (by omega) w0)
    go_wp2_with fail
    refine HN.out.mono ?_
    rintro e w1 ⟨rfl, hP, hB⟩
    have HN2 := Lib.hid (rnew_yes k (by omega) (by omega) w1)
    have hs1 : w0.heap.size + 1 < w1.heap.size := hP.cells.lt
    clear HN
    go_wp2_with fail
    refine HN2.out.mono ?_
    rintro e w2 ⟨rfl, hR, hB2⟩
    have H0 : Hid (TwoAt (fun k => w.heap.size ≤ k) (S0 k) 0 (w0.heap.size + 1) (w1.heap.size + 1) w2) := Lib.hid ⟨⟨_, _, hP.later hB2, hR, ⟨by omega, by omega⟩, by omega, by omega⟩, S0_ok (by omega) (by omega)⟩
    have HB := Lib.hid (HB0.out.trans ((hB.trans (hB2.mono (by omega))).mono hs0))
    have hs2 : w.heap.size ≤ w2.heap.size := HB.out.size
    clear HN2 hP hB hR hB2 HB0
    generalize w0.heap.size + 1 = b0 at *
    generalize w1.heap.size + 1 = r0 at *
    go_wp2_with fail
    refine (num_any _ _).mono ?_
    rintro e w' ⟨rfl, rfl⟩
    go_upto_region 7 with fail
    rename_i Q KT hKT KC hKC
    have HKT := Lib.hid hKT
    clear hKT
    go_wp2_with fail
    go_loopg [5, 7, 8] 200 (fun kk p r i wr => ∃ (j b' r' : Nat), p = .pointer (some ⟨b', 0, none⟩) ∧ r = .pointer (some ⟨r', 0, none⟩) ∧ i = .int .i64 (j : Int) ∧ Hid (j + kk = 200 ∧ (∃ S, TwoAt (fun k => w.heap.size ≤ k) S (j : Int) b' r' wr) ∧ Below w.heap.size w wr))
    case atStart => exact ⟨0, b0, r0, rfl, rfl, rfl, Lib.hid ⟨by omega, ⟨S0 k, H0.out⟩, HB.out⟩⟩
    case round =>
      obtain ⟨j, b', r', rfl, rfl, rfl, hj⟩ := hrel
      clear H0 HB
      by_cases hlt : j < L.length
      · have hltI : (j : Int) < (L.length : Int) := by omega
        by_cases h200 : j < 200
        · have h200I : (j : Int) < 200 := by omega
          have hgj := List.getElem?_eq_getElem hlt
          generalize L[j] = x at *
          have hxo := HL.out x (List.mem_of_getElem? hgj)
          obtain ⟨S, hT⟩ := hj.out.2.1
          obtain ⟨a, rfl, hload⟩ := load_step HA.out HL.out hgj
          have hld := hload wr hj.out.2.2
          have HD := Lib.hid (two_do hT ⟨by omega, by omega⟩ x hxo)
          have hle : w.heap.size ≤ wr.heap.size := hj.out.2.2.size
          have HBr := Lib.hid hj.out.2.2
          clear hT hgj hload hxo
          go_wp2_with (refine wpList_load_run rfl 41 (.tmp 63) rfl (a.add (j * 104)) _ rfl hld ?_)
          refine HD.out.mono ?_
          rintro e w3 ⟨b3, r3, rfl, hT3, hx3⟩
          have HT3 : Hid (TwoAt (fun k => w.heap.size ≤ k) (stepS S x) ((j : Int) + 1) b3 r3 w3) := Lib.hid (hT3.more (fun k hk => by rcases hk with hk | hk <;> omega))
          have HB3 := Lib.hid (own_below_ex HBr.out hx3 hle)
          clear hT3 hx3 HD HBr hld
          go_wp2_with fail
          go_roundg (gk - 1)
          case measure => have := hj.out; omega
          case rel => exact ⟨j + 1, b3, r3, rfl, rfl, (by go_num), Lib.hid ⟨(by have := hj.out; omega), ⟨_, HT3.out⟩, HB3.out⟩⟩
        · have h200I : ¬ (j : Int) < 200 := by omega
          obtain ⟨S, ⟨m', q', p1, p2, ⟨t1, t2⟩, _⟩, ok⟩ := hj.out.2.1
          have HP := Lib.hid p1
          have HO := Lib.hid ok
          have HBr := Lib.hid hj.out.2.2
          clear hj p1 p2 ok
          go_wp2_with fail
          exact HKT.out _ _ (clock_tail w wr w.heap.size b' m' HP.out HO.out HBr.out HBr.out.size ⟨t1, t2⟩ _ _ _ _ _ _ _ _ _ _ _ _ _ _ _ _ _ _ _ _ _ _ _ _ _ _ _ _ _ _ _ _ _ _ _ _ _ _ _ _ _ _ _ _ _ _ _ _ _ _ _ _ _ _ _ _ _ _ _ _ _ _ _ _ _ _ _ _ _ _ _ _ _ _ _ _ _ _ _ _ _ _ _ _ _ _ _ _ _ _ _ _ _ _ _ _ _ _ _ _ _ _ _ _ _ _ _ _ _ _ _ _ _ _ _ _ _ _ _ _ _ _ _ _ _ _ _ _ _ _ _ _ _ _ _ _ _ _ _ _ _ _ _ _ _ _ _ _ _ _ _ _ _ _ _ _ _ _ _ _ _ _ _ _ _ _ _ _ _ _ _ _ _ _ _ _ _ _ _ _)
      · have hltI : ¬ (j : Int) < (L.length : Int) := by omega
        obtain ⟨S, ⟨m', q', p1, p2, ⟨t1, t2⟩, _⟩, ok⟩ := hj.out.2.1
        have HP := Lib.hid p1
        have HO := Lib.hid ok
        have HBr := Lib.hid hj.out.2.2
        clear hj p1 p2 ok
        go_wp2_with fail
        exact HKT.out _ _ (clock_tail w wr w.heap.size b' m' HP.out HO.out HBr.out HBr.out.size ⟨t1, t2⟩ _ _ _ _ _ _ _ _ _ _ _ _ _ _ _ _ _ _ _ _ _ _ _ _ _ _ _ _ _ _ _ _ _ _ _ _ _ _ _ _ _ _ _ _ _ _ _ _ _ _ _ _ _ _ _ _ _ _ _ _ _ _ _ _ _ _ _ _ _ _ _ _ _ _ _ _ _ _ _ _ _ _ _ _ _ _ _ _ _ _ _ _ _ _ _ _ _ _ _ _ _ _ _ _ _ _ _ _ _ _ _ _ _ _ _ _ _ _ _ _ _ _ _ _ _ _ _ _ _ _ _ _ _ _ _ _ _ _ _ _ _ _ _ _ _ _ _ _ _ _ _ _ _ _ _ _ _ _ _ _ _ _ _ _ _ _ _ _ _ _ _ _ _ _ _ _ _ _ _ _)
  · have HN := Lib.hid (new_no n h1 w0)
    have HR := Lib.hid (rnew_no n h1 w0)
    clear h1
    go_wp2_with fail
    refine HN.out.mono ?_
    rintro e w' ⟨rfl, rfl⟩
    go_wp2_with fail
    refine HR.out.mono ?_
    rintro e w' ⟨rfl, rfl⟩
    go_wp2_with fail
    refine (num_any _ _).mono ?_
    rintro e w' ⟨rfl, rfl⟩
    go_wp2_with fail
    refine (num_any _ _).mono ?_
    rintro e w' ⟨rfl, rfl⟩
    go_wp2_with fail
    go_ret
    exact ⟨rfl, HB0.out⟩
end Go.Proofs.Ytjbjfpbhacpeiaa
