/- The law PoolSteps, walked. -/
import Derived.Test.YtjbjfpbhacpeiaaL3
import Derived.Test.YtjbjfpbhacpeiaaR7
namespace Go.Proofs.Ytjbjfpbhacpeiaa
open Go.RowKit
set_option linter.unusedSimpArgs false
set_option linter.unusedVariables false
set_option maxRecDepth 100000

/-! ### the script -/
theorem stcells_len {x : St} (h : x.Ok) : (stcells x).length = 104 := by simp [stcells, fcells_len h.f]
theorem infoSt : (Try.prog.info? 41).map (·.size) = some 104 := by kernel_rfl
theorem load_step {w : World} {A : Option Addr} {L : List St} (h : At w A (L.flatMap stcells)) (hok : ∀ x ∈ L, x.Ok) {j : Nat} {x : St} (hj : L[j]? = some x) :
    ∃ a, A = some a ∧ ∀ u, Below w.heap.size w u → (Instr.loadAt 41 (.pointer (some (a.add (j * 104))))).run Try.prog u = .ok (.agg (stA x)) u := by
  have hlen : ∀ x ∈ L, (stcells x).length = 104 := fun x hx => stcells_len (hok x hx)
  have hx := hok x (List.mem_of_getElem? hj)
  have hg : ∀ i, i < 104 → (L.flatMap stcells)[j * 104 + i]? = (stcells x)[i]? := fun i hi => by rw [fl_get L hlen j i hi, hj]; rfl
  obtain ⟨a, rfl, _⟩ := h (j * 104 + 0) (.int .i64 x.kind) ((hg 0 (by omega)).trans rfl)
  refine ⟨a, rfl, fun u hu => ?_⟩
  have hc : (loadCells (a.add (j * 104)) (stcells x).length).run Try.prog u = .ok (stcells x).toArray u := run_loadCells_list (P := Try.prog) u (a.add (j * 104)) (stcells x) (fun i v hi => by
    have hi2 : i < 104 := by have := (List.getElem?_eq_some_iff.1 hi).1; rw [stcells_len hx] at this; exact this
    obtain ⟨a', e, hc⟩ := (h.mono hu) (j * 104 + i) v ((hg i hi2).trans hi)
    injection e with e
    subst e
    rw [add_add]
    exact hc)
  rw [stcells_len hx] at hc
  cases hq : Try.prog.info? 41 with
  | none => have := infoSt; rw [hq] at this; cases this
  | some i =>
    have hs : i.size = 104 := by have := infoSt; rw [hq] at this; simpa using this
    have hagg : (isAgg 41).run Try.prog u = .ok true u := by
      unfold isAgg
      rw [Sem.run_bind, run_underlying Try.underlying41 u]
      rfl
    simp [Instr.loadAt, Instr.sureAddr, loadVar, Sem.run_bind, hagg, sizeOf, typeInfo, hq, hs, hc, stA]

/-! ### both pools, whose blocks are the law's own -/
structure TwoAt (T : Nat → Prop) (S : PS) (K : Int) (b r : Nat) (W : World) : Prop where
  ex : ∃ m q, PoolAt W b m S ∧ RefAt W r q S ∧ (T b ∧ T m) ∧ T r ∧ T q
  ok : S.Ok K
theorem TwoAt.more {T T' : Nat → Prop} {S : PS} {K : Int} {b r : Nat} {W : World} (h : TwoAt T S K b r W) (ht : ∀ k, T k → T' k) : TwoAt T' S K b r W := by
  obtain ⟨m, q, h1, h2, ⟨h3, h4⟩, h5, h6⟩ := h.ex
  exact ⟨⟨m, q, h1, h2, ⟨ht _ h3, ht _ h4⟩, ht _ h5, ht _ h6⟩, h.ok⟩
theorem TwoAt.kept {T U : Nat → Prop} {S : PS} {K : Int} {b r : Nat} {W W' : World} (h : TwoAt T S K b r W) (hx : Ex U W W') (hu : ∀ k, T k → ¬ U k) : TwoAt T S K b r W' := by
  obtain ⟨m, q, h1, h2, ⟨h3, h4⟩, h5, h6⟩ := h.ex
  exact ⟨⟨m, q, h1.kept hx (hu _ h3) (hu _ h4), h2.kept hx (hu _ h5) (hu _ h6), ⟨h3, h4⟩, h5, h6⟩, h.ok⟩
theorem TwoAt.later {T : Nat → Prop} {S : PS} {K : Int} {b r : Nat} {W W' : World} (h : TwoAt T S K b r W) (hb : Below W.heap.size W W') : TwoAt T S K b r W' := h.kept (U := fun _ => False) (Ex.below hb) (fun _ _ => id)
theorem or_at {T : Nat → Prop} {b b' : Nat} {q : Prop} (h : b' = b ∨ q) (hb : T b) : T b' ∨ q := by
  rcases h with e | e
  · exact .inl (by rw [e]; exact hb)
  · exact .inr e
theorem wpList_load_run {P : Program} {ops : Array Oper} {rest : List Oper} {o : Oper} {a : Act} {w : World} {Q : Exit → Act → World → Prop} (hgd : o.guard = none) (t : TypeId) (x : Operand) (ho : o.op = .load t x) (p : Addr) (cs : Array Value) (hx : a.eval x = .pointer (some p))
    (hrun : (Instr.loadAt t (.pointer (some p))).run P w = .ok (.agg cs) w) (h : wpList P ops Q rest (a.put o.dst (.agg cs)) w) : wpList P ops Q (o :: rest) a w :=
  wpList_plain hgd fun K hK => by
    unfold Oper.wp execOp
    simp only [ho, hx, Sem.run_bind, Sem.run_pure, Result.andThen_ok, hrun]
    exact hK _ _ h
theorem two_do {T : Nat → Prop} {S : PS} {K : Int} {b r : Nat} {W : World} (h : TwoAt T S K b r W) (hK : 0 ≤ K ∧ K ≤ 1000000) (x : St) (hx : x.Ok) :
    Calls Try.prog 11 #[.pointer (some ⟨b, 0, none⟩), .pointer (some ⟨r, 0, none⟩), .agg (stA x)] W (fun e w' => ∃ b' r', e = .returned (.tuple #[.pointer (some ⟨b', 0, none⟩), .pointer (some ⟨r', 0, none⟩), .bool true]) ∧
      TwoAt (fun k => T k ∨ W.heap.size ≤ k) (stepS S x) (K + 1) b' r' w' ∧ Ex T W w') := by
  obtain ⟨m, q, h1, h2, ⟨h3, h4⟩, h5, h6⟩ := h.ex
  refine (do_any W b m r q h1 h2 h.ok hK x hx).mono fun e w' ⟨b', m', r', q', he, p1, p2, px, t1, t2, t3, t4⟩ => ?_
  refine ⟨b', r', he, ⟨⟨m', q', p1, p2, ⟨or_at t1 h3, or_at t2 h4⟩, or_at t3 h5, or_at t4 h6⟩, stepS_ok h.ok hK.1 x hx⟩, px.mono fun k hk => ?_⟩
  rcases hk with rfl | rfl | rfl | rfl <;> assumption
theorem two_stands {T : Nat → Prop} {S : PS} {K : Int} {b r : Nat} {W : World} (h : TwoAt T S K b r W) (leave : Int) (hl : I64 leave) :
    Calls Try.prog 12 #[.pointer (some ⟨b, 0, none⟩), .pointer (some ⟨r, 0, none⟩), .int .i64 leave] W (fun e w' => e = .returned (.bool true) ∧ TwoAt T S K b r w' ∧ Below W.heap.size W w') := by
  obtain ⟨m, q, h1, h2, _⟩ := h.ex
  exact (stands_any W b m r q h1 h2 h.ok leave hl).mono fun e w' ⟨he, hb⟩ => ⟨he, h.later hb, hb⟩
theorem own_below_ex {B : Nat} {w W W' : World} (hb : Below B w W) (hx : Ex (fun k => B ≤ k) W W') (hB : B ≤ W.heap.size) : Below B w W' :=
  hb.trans (hx.toBelow hB (fun k hk => hk))
set_option maxHeartbeats 8000000 in
theorem steps_walk (w : World) (n : Int) (hn : I64 n) (A : Option Addr) (c : Nat) (L : List St) (hA : At w A (L.flatMap stcells)) (hL : ∀ x ∈ L, x.Ok) (leave : Int) (hl : I64 leave) :
    Calls Try.prog 3 #[.int .i64 n, .slice A L.length c, .int .i64 leave] w (fun e w' => e = .returned (.bool true) ∧ Below w.heap.size w w') := by
  by_cases h1 : 1 ≤ n ∧ n ≤ 16
  · obtain ⟨k, rfl⟩ : ∃ k : Nat, (k : Int) = n := ⟨n.toNat, by omega⟩
    have HN := Lib.hid (new_yes k (by omega) (by omega) w)
    have HL := Lib.hid hL
    have HA := Lib.hid hA
    clear hA hL
    go_enter Try.func3, Try.ntmps3
    go_wp2_with fail
    refine HN.out.mono ?_
    rintro e w1 ⟨rfl, hP, hB⟩
    have HN2 := Lib.hid (rnew_yes k (by omega) (by omega) w1)
    have hs1 : w.heap.size + 1 < w1.heap.size := hP.cells.lt
    clear HN
    go_wp2_with fail
    refine HN2.out.mono ?_
    rintro e w2 ⟨rfl, hR, hB2⟩
    have H0 : Hid (TwoAt (fun k => w.heap.size ≤ k) (S0 k) 0 (w.heap.size + 1) (w1.heap.size + 1) w2) := Lib.hid ⟨⟨_, _, hP.later hB2, hR, ⟨by omega, by omega⟩, by omega, by omega⟩, S0_ok (by omega) (by omega)⟩
    have HB := Lib.hid (hB.trans (hB2.mono (by omega)))
    have hs2 : w.heap.size ≤ w2.heap.size := HB.out.size
    clear HN2 hP hB hR hB2
    generalize w.heap.size + 1 = b0 at *
    generalize w1.heap.size + 1 = r0 at *
    go_wp2_with fail
    refine (num_any _ _).mono ?_
    rintro e w' ⟨rfl, rfl⟩
    go_wp2_with fail
    go_loopg [7, 9, 10] 200 (fun kk p r i wr => ∃ (j b' r' : Nat), p = .pointer (some ⟨b', 0, none⟩) ∧ r = .pointer (some ⟨r', 0, none⟩) ∧ i = .int .i64 (j : Int) ∧ Hid (j + kk = 200 ∧ (∃ S, TwoAt (fun k => w.heap.size ≤ k) S (j : Int) b' r' wr) ∧ Below w.heap.size w wr))
    case atStart => exact ⟨0, b0, r0, rfl, rfl, rfl, Lib.hid ⟨by omega, ⟨S0 k, H0.out⟩, HB.out⟩⟩
    case round =>
      obtain ⟨j, b', r', rfl, rfl, rfl, hj⟩ := hrel
      clear H0 HB
      by_cases hlt : j < L.length
      · have hltI : (j : Int) < (L.length : Int) := by omega
        by_cases h200 : j < 200
        · have h200I : (j : Int) < 200 := by omega
          have hgj := List.getElem?_eq_getElem hlt
          generalize L[j] = x at *
          have hxo := HL.out x (List.mem_of_getElem? hgj)
          obtain ⟨S, hT⟩ := hj.out.2.1
          obtain ⟨a, rfl, hload⟩ := load_step HA.out HL.out hgj
          have hld := hload wr hj.out.2.2
          have HD := Lib.hid (two_do hT ⟨by omega, by omega⟩ x hxo)
          have hle : w.heap.size ≤ wr.heap.size := hj.out.2.2.size
          have HBr := Lib.hid hj.out.2.2
          clear hT hgj hload hxo
          go_wp2_with (refine wpList_load_run rfl 41 (.tmp 53) rfl (a.add (j * 104)) _ rfl hld ?_)
          refine HD.out.mono ?_
          rintro e w3 ⟨b3, r3, rfl, hT3, hx3⟩
          have HT3 : Hid (TwoAt (fun k => w.heap.size ≤ k) (stepS S x) ((j : Int) + 1) b3 r3 w3) := Lib.hid (hT3.more (fun k hk => by rcases hk with hk | hk <;> omega))
          have HB3 := Lib.hid (own_below_ex HBr.out hx3 hle)
          have HS3 := Lib.hid (two_stands HT3.out leave hl)
          clear hT3 hx3 HD HBr hld
          go_wp2_with fail
          refine HS3.out.mono ?_
          rintro e w4 ⟨rfl, hT4, hb4⟩
          have HT4 := Lib.hid hT4
          have HB4 := Lib.hid (HB3.out.trans (hb4.mono HB3.out.size))
          clear hT4 hb4 HS3 HT3 HB3
          go_wp2_with fail
          go_roundg (gk - 1)
          case measure => have := hj.out; omega
          case rel => exact ⟨j + 1, b3, r3, rfl, rfl, (by go_num), Lib.hid ⟨(by have := hj.out; omega), ⟨_, HT4.out⟩, HB4.out⟩⟩
        · have h200I : ¬ (j : Int) < 200 := by omega
          have HBr := Lib.hid hj.out.2.2
          clear hj
          go_wp2_with fail
          refine (known_any wr).mono ?_
          rintro e w5 ⟨rfl, hb⟩
          have HB5 := Lib.hid (HBr.out.trans (hb.mono HBr.out.size))
          clear hb
          go_wp2_with fail
          go_ret
          exact ⟨rfl, HB5.out⟩
      · have hltI : ¬ (j : Int) < (L.length : Int) := by omega
        have HBr := Lib.hid hj.out.2.2
        clear hj
        go_wp2_with fail
        refine (known_any wr).mono ?_
        rintro e w5 ⟨rfl, hb⟩
        have HB5 := Lib.hid (HBr.out.trans (hb.mono HBr.out.size))
        clear hb
        go_wp2_with fail
        go_ret
        exact ⟨rfl, HB5.out⟩
  · have HN := Lib.hid (new_no n h1 w)
    have HR := Lib.hid (rnew_no n h1 w)
    clear hA hL h1
    go_enter Try.func3, Try.ntmps3
    go_wp2_with fail
    refine HN.out.mono ?_
    rintro e w' ⟨rfl, rfl⟩
    go_wp2_with fail
    refine HR.out.mono ?_
    rintro e w' ⟨rfl, rfl⟩
    go_wp2_with fail
    refine (num_any _ _).mono ?_
    rintro e w' ⟨rfl, rfl⟩
    go_wp2_with fail
    refine (known_any w).mono ?_
    rintro e w' ⟨rfl, hb⟩
    have HB := Lib.hid hb
    clear hb
    go_wp2_with fail
    go_ret
    exact ⟨rfl, HB.out⟩
end Go.Proofs.Ytjbjfpbhacpeiaa
