/- Contract of ReadDatagram's closure: a datagram is read, or given up. -/
import Derived.Test.YtemmdlanidepbaaDoorDgPut
import Derived.Test.YtemmdlanidepbaaDoorParse
import Derived.Test.YtemmdlanidepbaaDoorReadC
namespace Go.Proofs.YtemmdlanidepbaaDoor
open Go.RowKit
set_option linter.unusedSimpArgs false
set_option maxRecDepth 100000

/-- a datagram's bytes: what is read -/
def rdB256 (l : List UInt8) (pos : Nat) : Option (List UInt8 × Nat) := match dec 0 0 (l.drop pos) with
  | none => none
  | some (x, k) => if x ≤ 256 ∧ pos + k + x ≤ l.length then some ((l.drop (pos + k)).take x, pos + k + x) else none
/-- so many numbers -/
def rdNums : Nat → List UInt8 → Nat → Option (List Int × Nat)
  | 0, _, pos => some ([], pos)
  | n + 1, l, pos => match rdNum l pos with
    | none => none
    | some (z, p) => match rdNums n l p with
      | none => none
      | some (L, q) => some (z :: L, q)
/-- what bytes say as a datagram, and the place behind it -/
def parseD (l : List UInt8) : Option (Dg × Nat) := match rdNum l 0 with
  | none => none
  | some (a, p1) => match rdNum l p1 with
    | none => none
    | some (b, p2) => match rdNum l p2 with
      | none => none
      | some (c, p3) => match rdNum l p3 with
        | none => none
        | some (d, p4) => match rdNum l p4 with
          | none => none
          | some (e, p5) => match rdB256 l p5 with
            | none => none
            | some (body, p6) => some (⟨a, b, c, d, e, body⟩, p6)
section
variable (w : World) (g : Nat) (ad : Addr) (c : Nat) (l : List UInt8) (pos : Nat) (h : Rdr w g ad c l pos)
include h
theorem numI_some {z : Int} {p : Nat} (hr : rdNum l pos = some (z, p)) : Calls Tryd.prog 47 #[.pointer (some ⟨g, 0, none⟩)] w (Rd1 w g ad c l p (.int .i64 z)) := by
  unfold rdNum at hr
  split at hr
  · cases hr
  · rename_i n k hd
    split at hr
    · injection hr with hr
      injection hr with h1 h2
      subst h1 h2
      exact number_int w g ad c l pos h hd (by assumption)
    · cases hr
theorem numI_none (hr : rdNum l pos = none) : Calls Tryd.prog 47 #[.pointer (some ⟨g, 0, none⟩)] w (Gone w g ad c l) := by
  unfold rdNum at hr
  split at hr
  · rename_i hd
    exact number_int_no w g ad c l pos h hd
  · rename_i n k hd
    split at hr
    · cases hr
    · exact number_int_big w g ad c l pos h hd (by omega)
theorem numL_some {z : Int} {p : Nat} (hr : rdNum l pos = some (z, p)) : Calls Tryd.prog 48 #[.pointer (some ⟨g, 0, none⟩)] w (Rd1 w g ad c l p (.int .i64 z)) := by
  unfold rdNum at hr
  split at hr
  · cases hr
  · rename_i n k hd
    split at hr
    · injection hr with hr
      injection hr with h1 h2
      subst h1 h2
      exact number_i64 w g ad c l pos h hd (by assumption)
    · cases hr
theorem numL_none (hr : rdNum l pos = none) : Calls Tryd.prog 48 #[.pointer (some ⟨g, 0, none⟩)] w (Gone w g ad c l) := by
  unfold rdNum at hr
  split at hr
  · rename_i hd
    exact number_i64_no w g ad c l pos h hd
  · rename_i n k hd
    split at hr
    · cases hr
    · exact number_i64_big w g ad c l pos h hd (by omega)
/-- bytes, none too many: they, or a number that is no nought -/
def ReadB (w : World) (g : Nat) (ad : Addr) (c : Nat) (l : List UInt8) (pos : Nat) (e : Ending) (w' : World) : Prop := match rdB256 l pos with
  | some (news, p) => BytesRead w g ad c l p news e w'
  | none => ∃ z, z ≠ 0 ∧ Rd2 w g ad c l pos (.slice none 0 0) (.int .i64 z) e w'
theorem readB_any : Calls Tryd.prog 53 #[.pointer (some ⟨g, 0, none⟩), .int .i64 256] w (ReadB w g ad c l pos) := by
  unfold ReadB rdB256
  cases hd : dec 0 0 (l.drop pos) with
  | none => exact (rdBytes_no w g ad c l pos h 256 (by decide) hd).mono fun e w' hh => ⟨4, by decide, hh⟩
  | some r =>
    obtain ⟨x, k⟩ := r
    by_cases hx : x ≤ 256
    · by_cases hs : pos + k + x ≤ l.length
      · simp only [hx, hs, and_self, if_true]
        exact rdBytes_ok w g ad c l pos h 256 (by decide) hd (by omega) hs
      · simp only [hs, and_false, if_false]
        exact (rdBytes_short w g ad c l pos h 256 (by decide) hd (by omega) (by omega)).mono fun e w' hh => ⟨4, by decide, hh⟩
    · simp only [hx, false_and, if_false]
      exact (rdBytes_long w g ad c l pos h 256 (by decide) (by decide) hd (by omega)).mono fun e w' hh => ⟨3, by decide, hh⟩
end
def ReadCD (w : World) (g : Nat) (ad : Addr) (c : Nat) (l : List UInt8) (e : Ending) (w' : World) : Prop := match parseD l with
  | some (d, p) => ∃ b c', e = .returned (.agg (dcells d (some ⟨b, 0, none⟩) c')) ∧ w'.ownsRow w.heap.size 5 1 (.slice (some ⟨b, 0, none⟩) d.body.length c') d.body.length (bv d.body) ∧ Rdr w' g ad c l p ∧ w.grownBy w' (some g)
  | none => Gone w g ad c l e w'
def zeroDg : Array Value := #[.int .i64 0, .int .i64 0, .int .i64 0, .int .i64 0, .int .i64 0, .slice none 0 0]
set_option maxHeartbeats 8000000 in
theorem readCD_any (w : World) (g : Nat) (ad : Addr) (c : Nat) (l : List UInt8) (h : Rdr w g ad c l 0) : Calls Tryd.prog 66 #[.pointer (some ⟨g, 0, none⟩)] w (ReadCD w g ad c l) := by
  have hb0 := (Below.refl w.heap.size w).alloc (Nat.le_refl _) (.cells #[.int .i64 0, .int .i64 0, .int .i64 0, .int .i64 0, .int .i64 0, .slice none 0 0] 53)
  have h0 := h.below hb0
  have HG0 := Lib.hid (grown_of_below hb0 (some g))
  have HZ0 := Lib.hid (heap_alloc_new w (.cells #[.int .i64 0, .int .i64 0, .int .i64 0, .int .i64 0, .int .i64 0, .slice none 0 0] 53))
  have hgl := h.lt
  have hs0 : w.heap.size < (w.alloc (.cells #[.int .i64 0, .int .i64 0, .int .i64 0, .int .i64 0, .int .i64 0, .slice none 0 0] 53)).heap.size := by simp
  have hp0 : parseD l = parseD l := rfl
  conv at hp0 => rhs; unfold parseD
  have HP := Lib.hid hp0
  have HR0 := Lib.hid h0
  have HH := Lib.hid h
  clear hb0 h0 h hp0
  go_enter Tryd.func66, Tryd.ntmps66
  go_wp2_with fail
  generalize w.alloc (.cells #[.int .i64 0, .int .i64 0, .int .i64 0, .int .i64 0, .int .i64 0, .slice none 0 0] 53) = w0 at *
  cases hr0 : rdNum l 0 with
  | none =>
    have HPN : Hid (parseD l = none) := Lib.hid (by rw [HP.out, hr0])
    refine (numI_none _ _ _ _ _ _ HR0.out hr0).mono ?_
    rintro e w1 ⟨rfl, p, hr1, hg1⟩
    refine ⟨rfl, ?_⟩
    unfold ReadCD
    rw [HPN.out]
    exact ⟨rfl, p, hr1, grown_trans HG0.out hg1 (.inl rfl)⟩
  | some r0 =>
    obtain ⟨z0, p0⟩ := r0
    rw [hr0] at HP
    dsimp only at HP
    refine (numI_some _ _ _ _ _ _ HR0.out hr0).mono ?_
    rintro e w1 ⟨rfl, hr, hg⟩
    have HG1 := Lib.hid (grown_trans HG0.out hg (.inl rfl))
    have HR1 := Lib.hid hr
    have HZ1 := Lib.hid ((hg.block w.heap.size (by omega) (fun e => by injection e with e; omega)).trans HZ0.out)
    have hs1 : w.heap.size < w1.heap.size := by have := hg.size; omega
    clear hr hg HR0 HG0 HZ0 hr0 hs0
    go_wp2_with fail
    cases hr1 : rdNum l p0 with
    | none =>
      have HPN : Hid (parseD l = none) := Lib.hid (by rw [HP.out, hr1])
      refine (numI_none _ _ _ _ _ _ HR1.out hr1).mono ?_
      rintro e w1 ⟨rfl, p, hr1, hg1⟩
      refine ⟨rfl, ?_⟩
      unfold ReadCD
      rw [HPN.out]
      exact ⟨rfl, p, hr1, grown_trans HG1.out hg1 (.inl rfl)⟩
    | some r1 =>
      obtain ⟨z1, p1⟩ := r1
      rw [hr1] at HP
      dsimp only at HP
      refine (numI_some _ _ _ _ _ _ HR1.out hr1).mono ?_
      rintro e w2 ⟨rfl, hr, hg⟩
      have HG2 := Lib.hid (grown_trans HG1.out hg (.inl rfl))
      have HR2 := Lib.hid hr
      have HZ2 := Lib.hid ((hg.block w.heap.size (by omega) (fun e => by injection e with e; omega)).trans HZ1.out)
      have hs2 : w.heap.size < w2.heap.size := by have := hg.size; omega
      clear hr hg HR1 HG1 HZ1 hr1 hs1
      go_wp2_with fail
      cases hr2 : rdNum l p1 with
      | none =>
        have HPN : Hid (parseD l = none) := Lib.hid (by rw [HP.out, hr2])
        refine (numL_none _ _ _ _ _ _ HR2.out hr2).mono ?_
        rintro e w1 ⟨rfl, p, hr1, hg1⟩
        refine ⟨rfl, ?_⟩
        unfold ReadCD
        rw [HPN.out]
        exact ⟨rfl, p, hr1, grown_trans HG2.out hg1 (.inl rfl)⟩
      | some r2 =>
        obtain ⟨z2, p2⟩ := r2
        rw [hr2] at HP
        dsimp only at HP
        refine (numL_some _ _ _ _ _ _ HR2.out hr2).mono ?_
        rintro e w3 ⟨rfl, hr, hg⟩
        have HG3 := Lib.hid (grown_trans HG2.out hg (.inl rfl))
        have HR3 := Lib.hid hr
        have HZ3 := Lib.hid ((hg.block w.heap.size (by omega) (fun e => by injection e with e; omega)).trans HZ2.out)
        have hs3 : w.heap.size < w3.heap.size := by have := hg.size; omega
        clear hr hg HR2 HG2 HZ2 hr2 hs2
        go_wp2_with fail
        cases hr3 : rdNum l p2 with
        | none =>
          have HPN : Hid (parseD l = none) := Lib.hid (by rw [HP.out, hr3])
          refine (numL_none _ _ _ _ _ _ HR3.out hr3).mono ?_
          rintro e w1 ⟨rfl, p, hr1, hg1⟩
          refine ⟨rfl, ?_⟩
          unfold ReadCD
          rw [HPN.out]
          exact ⟨rfl, p, hr1, grown_trans HG3.out hg1 (.inl rfl)⟩
        | some r3 =>
          obtain ⟨z3, p3⟩ := r3
          rw [hr3] at HP
          dsimp only at HP
          refine (numL_some _ _ _ _ _ _ HR3.out hr3).mono ?_
          rintro e w4 ⟨rfl, hr, hg⟩
          have HG4 := Lib.hid (grown_trans HG3.out hg (.inl rfl))
          have HR4 := Lib.hid hr
          have HZ4 := Lib.hid ((hg.block w.heap.size (by omega) (fun e => by injection e with e; omega)).trans HZ3.out)
          have hs4 : w.heap.size < w4.heap.size := by have := hg.size; omega
          clear hr hg HR3 HG3 HZ3 hr3 hs3
          go_wp2_with fail
          cases hr4 : rdNum l p3 with
          | none =>
            have HPN : Hid (parseD l = none) := Lib.hid (by rw [HP.out, hr4])
            refine (numL_none _ _ _ _ _ _ HR4.out hr4).mono ?_
            rintro e w1 ⟨rfl, p, hr1, hg1⟩
            refine ⟨rfl, ?_⟩
            unfold ReadCD
            rw [HPN.out]
            exact ⟨rfl, p, hr1, grown_trans HG4.out hg1 (.inl rfl)⟩
          | some r4 =>
            obtain ⟨z4, p4⟩ := r4
            rw [hr4] at HP
            dsimp only at HP
            refine (numL_some _ _ _ _ _ _ HR4.out hr4).mono ?_
            rintro e w5 ⟨rfl, hr, hg⟩
            have HG5 := Lib.hid (grown_trans HG4.out hg (.inl rfl))
            have HR5 := Lib.hid hr
            have HZ5 := Lib.hid ((hg.block w.heap.size (by omega) (fun e => by injection e with e; omega)).trans HZ4.out)
            have hs5 : w.heap.size < w5.heap.size := by have := hg.size; omega
            clear hr hg HR4 HG4 HZ4 hr4 hs4
            go_wp2_with fail
            refine (readB_any _ _ _ _ _ _ HR5.out).mono ?_
            intro e w6 hB
            unfold ReadB at hB
            cases hr5 : rdB256 l p4 with
            | none =>
              rw [hr5] at hB
              obtain ⟨z, hz, rfl, hr6, hg6⟩ := hB
              have HPN : Hid (parseD l = none) := Lib.hid (by rw [HP.out, hr5])
              have HZZ := Lib.hid hz
              have HG6 := Lib.hid (grown_trans HG5.out hg6 (.inl rfl))
              have HR6 := Lib.hid hr6
              clear hr6 hg6 hz HP
              go_wp2_with fail
              refine (must_bytes_bad _ z HZZ.out _).mono ?_
              rintro e w' ⟨rfl, rfl⟩
              refine ⟨rfl, ?_⟩
              unfold ReadCD
              rw [HPN.out]
              exact ⟨rfl, _, HR6.out, HG6.out⟩
            | some r5 =>
              obtain ⟨news, p5⟩ := r5
              rw [hr5] at hB
              obtain ⟨b, c', rfl, ho, hr6, hg6⟩ := hB
              have HPS : Hid (parseD l = some (⟨z0, z1, z2, z3, z4, news⟩, p5)) := Lib.hid (by rw [HP.out, hr5])
              have HO6 := Lib.hid ho
              have HR6 := Lib.hid hr6
              have HG6 := Lib.hid (grown_trans HG5.out hg6 (.inl rfl))
              have HZ6 := Lib.hid ((hg6.block w.heap.size (by omega) (fun e => by injection e with e; omega)).trans HZ5.out)
              clear ho hr6 hg6 HP HZ5 HG5 HR5
              go_wp2_with fail
              refine (must_bytes _ _).mono ?_
              rintro e w' ⟨rfl, rfl⟩
              go_wp2_with (refine wpList_store_row rfl 53 (.tmp 2) (.tmp 18) rfl w.heap.size #[.int .i64 z0, .int .i64 z1, .int .i64 z2, .int .i64 z3, .int .i64 z4, .slice (some ⟨b, 0, none⟩) news.length c'] rfl rfl 53 _ HZ6.out infoDg rfl (by kernel_rfl) ?_)
              have hrow := setRow_at (cs := #[.int .i64 z0, .int .i64 z1, .int .i64 z2, .int .i64 z3, .int .i64 z4, .slice (some ⟨b, 0, none⟩) news.length c']) HZ6.out
              have hgr := setRow_grown w6 w.heap.size #[.int .i64 z0, .int .i64 z1, .int .i64 z2, .int .i64 z3, .int .i64 z4, .slice (some ⟨b, 0, none⟩) news.length c']
              refine bodyPost_ret (v := .agg #[.int .i64 z0, .int .i64 z1, .int .i64 z2, .int .i64 z3, .int .i64 z4, .slice (some ⟨b, 0, none⟩) news.length c']) ?hr rfl ?hp
              case hr => exact results_cell_row rfl _ _ w.heap.size 53 _ (0, 0) _ rfl hrow Tryd.underlying53 rfl infoDg
              case hp =>
                unfold ReadCD
                rw [HPS.out]
                exact ⟨b, c', rfl, own_lower (own_keep HO6.out hgr hs5) (Nat.le_of_lt hs5), HH.out.off HR6.out hgr (Nat.le_refl _), grown_trans HG6.out hgr (.inr ⟨_, rfl, Nat.le_refl _⟩)⟩
end Go.Proofs.YtemmdlanidepbaaDoor
