/- The law WireBack's walk. -/
import Derived.Test.YtemmdlanidepbaaKnown
import Derived.Test.YtemmdlanidepbaaSeq
import Derived.Test.YtemmdlanidepbaaDec2
namespace Go.Proofs.Ytemmdlanidepbaa
open Go.RowKit
set_option linter.unusedSimpArgs false

theorem rowsAt_four {w : World} {g1 g2 g3 g4 c1 c2 c3 c4 : Nat} {l1 l2 l3 l4 : List UInt8} {b1 b2 b3 b4 : Nat}
    (h1 : w.ownsRow b1 5 1 (.slice (some ⟨g1, 0, none⟩) l1.length c1) l1.length (bv l1)) (h2 : w.ownsRow b2 5 1 (.slice (some ⟨g2, 0, none⟩) l2.length c2) l2.length (bv l2))
    (h3 : w.ownsRow b3 5 1 (.slice (some ⟨g3, 0, none⟩) l3.length c3) l3.length (bv l3)) (h4 : w.ownsRow b4 5 1 (.slice (some ⟨g4, 0, none⟩) l4.length c4) l4.length (bv l4)) :
    RowsAt (w.alloc (.cells #[.slice (some ⟨g1, 0, none⟩) l1.length c1, .slice (some ⟨g2, 0, none⟩) l2.length c2, .slice (some ⟨g3, 0, none⟩) l3.length c3, .slice (some ⟨g4, 0, none⟩) l4.length c4] 23)) (some ⟨w.heap.size, 0, none⟩) [l1, l2, l3, l4] := by
  have hb : Below w.heap.size w (w.alloc (.cells #[.slice (some ⟨g1, 0, none⟩) l1.length c1, .slice (some ⟨g2, 0, none⟩) l2.length c2, .slice (some ⟨g3, 0, none⟩) l3.length c3, .slice (some ⟨g4, 0, none⟩) l4.length c4] 23)) := (Below.refl _ _).alloc (Nat.le_refl _) _
  refine ⟨[.slice (some ⟨g1, 0, none⟩) l1.length c1, .slice (some ⟨g2, 0, none⟩) l2.length c2, .slice (some ⟨g3, 0, none⟩) l3.length c3, .slice (some ⟨g4, 0, none⟩) l4.length c4], rfl, fun j u hj => ⟨_, rfl, ?_⟩, fun j hj => ?_⟩
  · rw [add0, World.cell?_alloc_new, ← Array.getElem?_toList]
    exact hj
  · have le : ∀ {g c b : Nat} {l : List UInt8}, w.ownsRow b 5 1 (.slice (some ⟨g, 0, none⟩) l.length c) l.length (bv l) → l.length ≤ c := fun h => by
      obtain ⟨A, c', e, hle⟩ := own_form h
      injection e with _ _ e
      omega
    match j, hj with
    | 0, _ => exact ⟨_, _, rfl, le h1, (own_at h1).mono hb⟩
    | 1, _ => exact ⟨_, _, rfl, le h2, (own_at h2).mono hb⟩
    | 2, _ => exact ⟨_, _, rfl, le h3, (own_at h3).mono hb⟩
    | 3, _ => exact ⟨_, _, rfl, le h4, (own_at h4).mono hb⟩

/-- all of it, as it is written -/
def forms (n : Nat) (s : Int) (l : List UInt8) (f : Bool) : List UInt8 := [enc n, enc (fold s), encB l, flg f].flatten
theorem forms_eq (n : Nat) (s : Int) (l : List UInt8) (f : Bool) : forms n s l f = enc n ++ (enc (fold s) ++ (enc l.length ++ (l ++ flg f))) := by simp [forms, encB]
theorem forms_len {n : Nat} {s : Int} {l : List UInt8} {f : Bool} (hn : U64 n) (hs : I64 s) (hl : U64 l.length) : (forms n s l f).length ≤ l.length + 31 := by
  rw [forms_eq]
  have := enc_len hn
  have := enc_len (fold_u64 hs)
  have := enc_len hl
  simp only [List.length_append, flg, List.length_singleton]
  omega
section
variable {n : Nat} {s : Int} {l : List UInt8} {f : Bool}
theorem read1 (hn : U64 n) : dec 0 0 ((forms n s l f).drop 0) = some (n, (enc n).length) := by rw [forms_eq]; exact dec_enc hn _
theorem drop1 : (forms n s l f).drop (0 + (enc n).length) = enc (fold s) ++ (enc l.length ++ (l ++ flg f)) := by rw [forms_eq, Nat.zero_add, List.drop_left]
theorem read2 (hs : I64 s) : dec 0 0 ((forms n s l f).drop (0 + (enc n).length)) = some (fold s, (enc (fold s)).length) := by rw [drop1]; exact dec_enc (fold_u64 hs) _
theorem drop2 : (forms n s l f).drop (0 + (enc n).length + (enc (fold s)).length) = enc l.length ++ (l ++ flg f) := by rw [← List.drop_drop, drop1, List.drop_left]
theorem read3 (hl : U64 l.length) : dec 0 0 ((forms n s l f).drop (0 + (enc n).length + (enc (fold s)).length)) = some (l.length, (enc l.length).length) := by rw [drop2]; exact dec_enc hl _
theorem drop3 : (forms n s l f).drop (0 + (enc n).length + (enc (fold s)).length + (enc l.length).length) = l ++ flg f := by rw [← List.drop_drop, drop2, List.drop_left]
theorem read3b : ((forms n s l f).drop (0 + (enc n).length + (enc (fold s)).length + (enc l.length).length)).take l.length = l := by rw [drop3, List.take_left]
theorem read4 : (forms n s l f).drop (0 + (enc n).length + (enc (fold s)).length + (enc l.length).length + l.length) = (if f then 1 else 0) :: [] := by rw [← List.drop_drop, drop3, List.drop_left]; rfl
theorem all_len : (forms n s l f).length = 0 + (enc n).length + (enc (fold s)).length + (enc l.length).length + l.length + 1 := by rw [forms_eq]; simp [flg]; omega
end

/-- bytes, read back and cut short -/
theorem short_read {b : List UInt8} {x k : Nat} (hd : dec 0 0 b = some (x, k)) (hk : k + x ≤ b.length) (hb : b.length ≤ 140737488351232) :
    encB ((b.drop k).take x) = b.take (k + x) ∧ (encB ((b.drop k).take x)).length = k + x ∧ ((b.drop k).take x).length = x := by
  have h := dec_take hd
  have hx : ((b.drop k).take x).length = x := by rw [List.length_take, List.length_drop]; omega
  have e : encB ((b.drop k).take x) = b.take (k + x) := by
    unfold encB
    rw [hx, ← h.1, List.take_add]
  exact ⟨e, by rw [e, List.length_take]; omega, hx⟩
theorem short_cases {b : List UInt8} {x k : Nat} (hd : dec 0 0 b = some (x, k)) (hk : k + x ≤ b.length) (hb : b.length ≤ 140737488351232) :
    let s := b.take (k + x - 1)
    dec 0 0 s = none ∨ ∃ x' k', dec 0 0 s = some (x', k') ∧ x' ≤ b.length ∧ s.length < k' + x' := by
  intro s
  have h := dec_take hd
  have hf := dec_fits _ _ _ (by omega) (by simp) _ _ hd
  by_cases hx : x = 0
  · left
    subst hx
    have : k = 1 := by rw [h.2, enc_small (by omega)]; rfl
    subst this
    show dec 0 0 (b.take 0) = none
    rw [List.take_zero]
    rfl
  · right
    refine ⟨x, k, ?_, by omega, ?_⟩
    · have e : s = enc x ++ (b.drop k).take (x - 1) := by
        show b.take (k + x - 1) = _
        rw [show k + x - 1 = k + (x - 1) by omega, List.take_add, h.1]
      rw [e, dec_enc hf.2.2, ← h.2]
    · show (b.take (k + x - 1)).length < _
      rw [List.length_take]
      omega

set_option maxRecDepth 100000 in
set_option maxHeartbeats 8000000 in
theorem wireBack_walk (w : World) (n : Nat) (hn : U64 n) (s : Int) (hs : I64 s) (f : Bool) (A : Option Addr) (c : Nat) (l : List UInt8) (hA : At w A (bv l)) (hl : l.length ≤ 140737488351232)
    (A2 : Option Addr) (c2 : Nat) (b : List UInt8) (hA2 : At w A2 (bv b)) (hb : b.length ≤ 140737488351232) (hc2 : b.length ≤ c2) :
    Calls Try.prog 4 #[.agg #[.int .u64 (n : Int), .int .i64 s, .bool f, .slice A l.length c], .slice A2 b.length c2] w (fun e w' => e = .returned (.bool true) ∧ Below w.heap.size w w') := by
  go_enter Try.func4, Try.ntmps4
  go_wp2_with fail
  obtain ⟨w0, hw0⟩ : ∃ w0, w0 = w.alloc (.cells #[.int .u64 (n : Int), .int .i64 s, .bool f, .slice A l.length c] 25) := ⟨_, rfl⟩
  rw [← hw0]
  have hB0 : Below w.heap.size w w0.drew := by rw [hw0]; exact ((Below.refl _ _).alloc (Nat.le_refl _) _).drew
  have U : Up (fun _ => False) w0.drew (fun u => u.cell? ⟨w.heap.size, 0, none⟩ = some (.int .u64 (n : Int)) ∧ u.cell? ⟨w.heap.size, 1, none⟩ = some (.int .i64 s) ∧ u.cell? ⟨w.heap.size, 2, none⟩ = some (.bool f) ∧ u.cell? ⟨w.heap.size, 3, none⟩ = some (.slice A l.length c)) :=
    ((Up.cell (by rw [hw0]; simp) id).and ((Up.cell (by rw [hw0]; simp) id).and ((Up.cell (by rw [hw0]; simp) id).and (Up.cell (by rw [hw0]; simp) id))))
  have HB0 := Lib.hid hB0
  have HA0 := Lib.hid (hA.mono hB0)
  clear hw0 hB0
  refine wp_region_seq (fun _ => False) [] [(0, true), (1, true), (3, true), (4, true), (6, true), (7, true), (9, true), (10, true), (2, false), (5, false), (8, false), (11, false), (12, false), (13, false), (14, true)] (by kernel_rfl) (by kernel_rfl) (fun _ _ d _ _ h => by cases d <;> exact h) rfl (by kernel_rfl) ?_
  iterate 8
    refine seq_on (v := ?_) rfl (by rfl) ?_ ?_
    rotate_left
    · intro w' hw'
      obtain ⟨q0, q1, q2, q3⟩ := U w' hw'
      go_simp
      try with_reducible rfl
    simp only [Act.put, List.setIfInBounds_toArray, List.set_cons_zero, List.set_cons_succ]
  refine seq_eff rfl (by rfl) (fun K hK => ?_)
  go_simp
  refine (number_any n hn _).mono ?_
  rintro e w1 ⟨g1, c1, rfl, ho1, hb1⟩
  refine hK.out _ _ (.inl (Ex.below hb1)) ?_
  try simp only [Act.put, List.setIfInBounds_toArray, List.set_cons_zero, List.set_cons_succ]
  have HB1 := Lib.hid (Bl.step HB0.out hb1)
  have U1 := U.later (Ex.below hb1)
  have HA1 := Lib.hid (HA0.out.mono hb1)
  have HO1 := Lib.hid ho1
  clear hK HB0 hb1 U HA0 ho1
  refine seq_eff rfl (by rfl) (fun K hK => ?_)
  go_simp
  refine (signed_any s hs _).mono ?_
  rintro e w2 ⟨g2, c3, rfl, ho2, hb2⟩
  refine hK.out _ _ (.inl (Ex.below hb2)) ?_
  try simp only [Act.put, List.setIfInBounds_toArray, List.set_cons_zero, List.set_cons_succ]
  have HB2 := Lib.hid (Bl.step HB1.out hb2)
  have U2 := U1.later (Ex.below hb2)
  have HA2 := Lib.hid (HA1.out.mono hb2)
  have HO1' := Lib.hid (own_below HO1.out hb2)
  have HO2 := Lib.hid ho2
  clear hK HB1 hb2 U1 HA1 ho2 HO1
  refine seq_eff rfl (by rfl) (fun K hK => ?_)
  go_simp
  refine (bytes_any A c l _ HA2.out hl).mono ?_
  rintro e w3 ⟨g3, c4, rfl, ho3, hb3⟩
  refine hK.out _ _ (.inl (Ex.below hb3)) ?_
  try simp only [Act.put, List.setIfInBounds_toArray, List.set_cons_zero, List.set_cons_succ]
  have HB3 := Lib.hid (Bl.step HB2.out hb3)
  have U3 := U2.later (Ex.below hb3)
  have HA3 := Lib.hid (HA2.out.mono hb3)
  have HO1 := Lib.hid (own_below HO1'.out hb3)
  have HO2' := Lib.hid (own_below HO2.out hb3)
  have HO3 := Lib.hid ho3
  clear hK HB2 hb3 U2 HA2 ho3 HO1' HO2
  refine seq_eff rfl (by rfl) (fun K hK => ?_)
  go_simp
  refine (flag_any f _).mono ?_
  rintro e w4 ⟨g4, c5, rfl, ho4, hb4⟩
  refine hK.out _ _ (.inl (Ex.below hb4)) ?_
  try simp only [Act.put, List.setIfInBounds_toArray, List.set_cons_zero, List.set_cons_succ]
  have HB4 := Lib.hid (Bl.step HB3.out hb4)
  have U4 := U3.later (Ex.below hb4)
  have HA4 := Lib.hid (HA3.out.mono hb4)
  have HR := Lib.hid (rowsAt_four (own_below HO1.out hb4) (own_below HO2'.out hb4) (own_below HO3.out hb4) ho4)
  clear hK HB3 hb4 U3 HA3 ho4 HO1 HO2' HO3
  refine seq_eff rfl (by rfl) (fun K hK => ?_)
  go_simp
  refine hK.out _ _ (.inl (Ex.below ((Below.refl _ _).alloc (Nat.le_refl _) _))) ?_
  try simp only [Act.put, List.setIfInBounds_toArray, List.set_cons_zero, List.set_cons_succ]
  clear hK
  have hul : U64 l.length := by unfold U64; omega
  have hfl := forms_len (f := f) hn hs hul
  refine seq_eff rfl (by rfl) (fun K hK => ?_)
  go_simp
  refine (join_any _ 4 [enc n, enc (fold s), encB l, flg f] _ HR.out (by simp) (by show (forms n s l f).length ≤ _; omega)).mono ?_
  rintro e w5 ⟨g5, c6, rfl, ho5, hb5⟩
  refine hK.out _ _ (.inl (Ex.below hb5)) ?_
  rw [show [enc n, enc (fold s), encB l, flg f].flatten = forms n s l f from rfl] at *
  try simp only [Act.put, List.setIfInBounds_toArray, List.set_cons_zero, List.set_cons_succ]
  have hb45 := Bl.step ((Below.refl w4.heap.size w4).alloc (Nat.le_refl _) _) hb5
  have HB5 := Lib.hid (Bl.step HB4.out hb45)
  have U5 := U4.later (Ex.below hb45)
  have HA5 := Lib.hid (HA4.out.mono hb45)
  have HO5 := Lib.hid ho5
  clear hK HB4 hb5 hb45 U4 HA4 ho5 HR
  refine seq_on (v := ?_) rfl (by rfl) ?_ ?_
  rotate_left
  · intro w' hw'
    go_simp
    try with_reducible rfl
  simp only [Act.put, List.setIfInBounds_toArray, List.set_cons_zero, List.set_cons_succ]
  refine seq_nil ?_
  go_wp2_with fail
  refine (open_any _ _ _ _ (own_at HO5.out) (by omega)).mono ?_
  rintro e w6 ⟨g6, ad6, c7, rfl, hr6, hge, hge2, hb6⟩
  have HX6 := Lib.hid hb6
  clear hb6 HO5
  go_wp2_with fail
  refine (rdNumber_ok _ _ _ _ _ _ hr6 (read1 hn)).mono ?_
  rintro e w7 ⟨rfl, hr7, hg⟩
  have HX7 := Lib.hid (Bl.grown HX6.out hg (fun k hk => by injection hk with hk; omega))
  clear hg hr6 HX6
  go_wp2_with fail
  refine (rdSigned_ok _ _ _ _ _ _ hr7 (read2 hs)).mono ?_
  rintro e w8 ⟨rfl, hr8, hg⟩
  rw [unf_fold]
  have HX8 := Lib.hid (Bl.grown HX7.out hg (fun k hk => by injection hk with hk; omega))
  clear hg hr7 HX7
  obtain ⟨q0, q1, q2, q3⟩ := U5 _ (Ex.below HX8.out)
  go_wp2_with fail
  refine (rdBytes_ok _ _ _ _ _ _ hr8 (l.length : Int) (by omega) (read3 hul) (Int.le_refl _) (by rw [all_len]; omega)).mono ?_
  rintro e w9 ⟨b9, c9, rfl, ho9, hr9, hg⟩
  rw [read3b] at *
  have HX9 := Lib.hid (Bl.grown HX8.out hg (fun k hk => by injection hk with hk; omega))
  have HO9 := Lib.hid ho9
  have hlt8 := hr8.lt
  clear hg hr8 HX8 q0 q1 q2 q3 ho9
  go_wp2_with fail
  refine (rdFlag_ok _ _ _ _ _ _ hr9 read4 (by cases f <;> decide)).mono ?_
  rintro e w10 ⟨rfl, hr10, hg⟩
  rw [show ((if f = true then (1 : UInt8) else 0).toNat == 1) = f by cases f <;> rfl]
  have HX10 := Lib.hid (Bl.grown HX9.out hg (fun k hk => by injection hk with hk; omega))
  have HO10 := Lib.hid (HO9.out.kept hg (.inr (fun e => by have := HO9.out.lt b9 rfl; simp [Value.ownBlock] at e; omega)))
  obtain ⟨q0, q1, q2, q3⟩ := U5 _ (Ex.below HX10.out)
  have k1 := own_conv HO10.out
  have k2 := run_conv (c := c) (HA5.out.mono HX10.out)
  clear hg HX9 HO9 hlt8 HO10 hr9
  go_wp2_with (go_at_call 24; refine (num_any _ _).mono ?_; rintro e w' ⟨rfl, rfl⟩)
  refine (end_yes _ _ _ _ _ _ hr10).mono ?_
  rintro e w' ⟨rfl, n11, rfl⟩
  rw [show endE (forms n s l f) (0 + (enc n).length + (enc (fold s)).length + (enc l.length).length + l.length + 1) = 0 by unfold endE; rw [all_len, if_neg (by omega)]]
  have HB11 := Lib.hid (Bl.drewN (Bl.step HB5.out HX10.out) n11)
  clear k1 k2 q0 q1 q2 q3 HX10 HB5 HA5 hr10 hge hge2
  go_wp2_with (go_at_call 24; refine (num_any _ _).mono ?_; rintro e w' ⟨rfl, rfl⟩)
  have HA11 := Lib.hid (hA2.mono HB11.out)
  refine (open_any A2 c2 b _ HA11.out (by omega)).mono ?_
  rintro e w12 ⟨g12, ad12, c12, rfl, hr12, hge, hge2, hb12⟩
  have HB12 := Lib.hid (Bl.step HB11.out hb12)
  have G12 : w.heap.size ≤ g12 := by have := HB11.out.size; simp at this hge; omega
  clear HB11 HA11 hb12 hge hge2 U5
  have hbl : (b.length : Int) ≤ 9223372036854775807 := by omega
  have hd0 : b.drop 0 = b := rfl
  cases hd : dec 0 0 b with
  | none =>
    have hd' : dec 0 0 (b.drop 0) = none := hd
    clear hd hd0
    have HN := Lib.hid (rdBytes_no _ _ _ _ _ _ hr12 (b.length : Int) (by omega) hd')
    clear hd'
    go_wp2_with fail
    refine HN.out.mono ?_
    rintro e w13 ⟨rfl, hr13, hg⟩
    have HB13 := Lib.hid (Bl.grown HB12.out hg (fun k hk => by injection hk with hk; omega))
    clear hg HB12 HN hr12
    go_wp2_with (go_at_call 24; refine (num_any _ _).mono ?_; rintro e w' ⟨rfl, rfl⟩)
    refine (left_yes _ _ _ _ _ _ hr13).mono ?_
    rintro e w' ⟨rfl, n14, rfl⟩
    go_wp2_with fail
    refine (known_any _).mono ?_
    rintro e w14 ⟨rfl, hb14⟩
    have HB14 := Lib.hid (Bl.step (Bl.drewN HB13.out n14) hb14)
    clear hb14 HB13
    go_wp2_with fail
    go_ret
    exact ⟨rfl, HB14.out⟩
  | some xk =>
    obtain ⟨x, k⟩ := xk
    have hd' : dec 0 0 (b.drop 0) = some (x, k) := hd
    clear hd0
    by_cases hx : b.length < x
    · clear hd
      have HN := Lib.hid (rdBytes_long _ _ _ _ _ _ hr12 (b.length : Int) (by omega) hbl hd' (by omega))
      clear hd'
      go_wp2_with fail
      refine HN.out.mono ?_
      rintro e w13 ⟨rfl, hr13, hg⟩
      have HB13 := Lib.hid (Bl.grown HB12.out hg (fun k hk => by injection hk with hk; omega))
      clear hg HB12 HN hr12
      go_wp2_with (go_at_call 24; refine (num_any _ _).mono ?_; rintro e w' ⟨rfl, rfl⟩)
      refine (left_yes _ _ _ _ _ _ hr13).mono ?_
      rintro e w' ⟨rfl, n14, rfl⟩
      go_wp2_with fail
      refine (known_any _).mono ?_
      rintro e w14 ⟨rfl, hb14⟩
      have HB14 := Lib.hid (Bl.step (Bl.drewN HB13.out n14) hb14)
      clear hb14 HB13
      go_wp2_with fail
      go_ret
      exact ⟨rfl, HB14.out⟩
    by_cases hk : b.length < k + x
    · clear hd
      have HN := Lib.hid (rdBytes_short _ _ _ _ _ _ hr12 (b.length : Int) hbl hd' (by omega) (by omega))
      clear hd'
      go_wp2_with fail
      refine HN.out.mono ?_
      rintro e w13 ⟨rfl, hr13, hg⟩
      have HB13 := Lib.hid (Bl.grown HB12.out hg (fun k hk => by injection hk with hk; omega))
      clear hg HB12 HN hr12
      go_wp2_with (go_at_call 24; refine (num_any _ _).mono ?_; rintro e w' ⟨rfl, rfl⟩)
      refine (left_yes _ _ _ _ _ _ hr13).mono ?_
      rintro e w' ⟨rfl, n14, rfl⟩
      go_wp2_with fail
      refine (known_any _).mono ?_
      rintro e w14 ⟨rfl, hb14⟩
      have HB14 := Lib.hid (Bl.step (Bl.drewN HB13.out n14) hb14)
      clear hb14 HB13
      go_wp2_with fail
      go_ret
      exact ⟨rfl, HB14.out⟩
    have HS := short_read hd (by omega) hb
    have HC := Lib.hid (short_cases hd (by omega) hb)
    have HN := rdBytes_ok _ _ _ _ _ _ hr12 (b.length : Int) hbl hd' (by omega) (by omega)
    rw [show 0 + k = k by omega] at HN
    have k1 : 1 ≤ k := (dec_fits _ _ _ (by omega) (by simp) _ _ hd).1
    clear hd hd'
    obtain ⟨y, hy⟩ : ∃ y, y = (b.drop k).take x := ⟨_, rfl⟩
    rw [← hy] at HS HN
    have hyl : y.length ≤ 140737488351232 := by have := HS.2.2; omega
    replace HN := Lib.hid HN
    replace HS := Lib.hid HS
    clear hy
    go_wp2_with fail
    refine HN.out.mono ?_
    rintro e w13 ⟨b13, c13, rfl, ho13, hr13, hg⟩
    have HB13 := Lib.hid (Bl.grown HB12.out hg (fun k hk => by injection hk with hk; omega))
    have HO13 := Lib.hid ho13
    clear hg HB12 HN hr12 ho13
    go_wp2_with (go_at_call 24; refine (num_any _ _).mono ?_; rintro e w' ⟨rfl, rfl⟩)
    refine (bytes_any (some ⟨b13, 0, none⟩) c13 y _ (own_at HO13.out) hyl).mono ?_
    rintro e w14 ⟨g14, c14, rfl, ho14, hb14⟩
    obtain ⟨es, el, ey⟩ := HS.out
    rw [es] at ho14
    have ek : (b.take (k + x)).length = k + x := by rw [← es]; exact el
    rw [el]
    rw [ek] at ho14
    clear es el ey hyl HS HO13
    have hmb : k + x ≤ b.length := by omega
    have hm1 : 1 ≤ k + x := by omega
    have hmc : k + x ≤ c2 := by omega
    clear hk hx k1
    generalize k + x = m at *
    have HB14 := Lib.hid (Bl.step HB13.out hb14)
    have HR14 := Lib.hid (hr13.below hb14)
    have HO14 := Lib.hid ho14
    have hA2' := hA2.mono HB14.out
    obtain ⟨ad2, e2⟩ : ∃ ad2, A2 = some ad2 := by
      rcases b with _ | ⟨b0, bs⟩
      · simp at hmb; omega
      · obtain ⟨ad, e, _⟩ := hA2 0 _ rfl
        exact ⟨ad, e⟩
    subst e2
    have KS : Up (fun _ => False) w14 (fun u => (convert 23 9 (.slice (some ⟨g14, 0, none⟩) m c14)).run Try.prog u = .ok (.string ⟨(b.take m).toArray⟩) u ∧ (convert 23 9 (.slice (some ad2) m c2)).run Try.prog u = .ok (.string ⟨(b.take m).toArray⟩) u) :=
      ((Up.bytes (own_at ho14) (fun _ _ h => h)).and (Up.bytes hA2' (fun _ _ h => h))).map (fun u hu => ⟨by have := run_conv (c := c14) hu.1; rwa [ek] at this, by
        have h2 : At u (some ad2) (bv (b.take m)) := fun j v hj => hu.2 j v (by
          rw [bv, List.getElem?_map] at hj ⊢
          rw [List.getElem?_take] at hj
          split at hj
          · exact hj
          · cases hj)
        have := run_conv (c := c2) h2
        rwa [ek] at this⟩)
    clear ho14 hb14 HB13 hr13
    have w1 : IntKind.i64.wrap ((b.length : Int) - ((b.length - m : Nat) : Int)) = (m : Int) := (IntWalk.i64_in _ (by omega)).trans (by omega)
    have w2 : IntKind.i64.wrap ((m : Int) - 1) = ((m - 1 : Nat) : Int) := (IntWalk.i64_in _ (by omega)).trans (by omega)
    go_wp2_with fail
    refine wp_region_seq (fun _ => False) [] [(0, true), (1, true), (2, true), (3, true), (4, true), (5, false), (6, true), (7, true), (8, true), (9, true), (10, true), (11, true), (12, true), (13, true), (14, true), (15, true), (16, true), (17, true)] (by kernel_rfl) (by kernel_rfl) (fun _ _ d _ _ h => by cases d <;> exact h) rfl (by kernel_rfl) ?_
    iterate 5
      refine seq_on (v := ?_) rfl (by rfl) ?_ ?_
      rotate_left
      · intro w' hw'
        go_simp
        try with_reducible rfl
      simp only [Act.put, List.setIfInBounds_toArray, List.set_cons_zero, List.set_cons_succ]
    refine seq_eff rfl (by rfl) (fun K hK => ?_)
    go_simp
    refine (left_yes _ _ _ _ _ _ (HR14.out.drewN 1)).mono ?_
    rintro e w' ⟨rfl, n15, rfl⟩
    refine hK.out _ _ (.inl (Ex.drewN _ _ _)) ?_
    try simp only [Act.put, List.setIfInBounds_toArray, List.set_cons_zero, List.set_cons_succ]
    clear hK
    refine seq_at (some 135) (v := ?_) rfl (by kernel_rfl) (by kernel_rfl) ?_ ?_
    rotate_left
    · intro w' hw'
      go_simp
      try with_reducible rfl
    simp only [Act.put, List.setIfInBounds_toArray, List.set_cons_zero, List.set_cons_succ]
    refine seq_at (some 136) (v := ?_) rfl (by kernel_rfl) (by kernel_rfl) ?_ ?_
    rotate_left
    · intro w' hw'
      go_simp
      try with_reducible rfl
    simp only [Act.put, List.setIfInBounds_toArray, List.set_cons_zero, List.set_cons_succ]
    refine seq_at (some 137) (v := ?_) rfl (by kernel_rfl) (by kernel_rfl) ?_ ?_
    rotate_left
    · intro w' hw'
      go_simp
      try with_reducible rfl
    simp only [Act.put, List.setIfInBounds_toArray, List.set_cons_zero, List.set_cons_succ]
    refine seq_at (some 138) (v := ?_) rfl (by kernel_rfl) (by kernel_rfl) ?_ ?_
    rotate_left
    · intro w' hw'
      go_simp
      try with_reducible rfl
    simp only [Act.put, List.setIfInBounds_toArray, List.set_cons_zero, List.set_cons_succ]
    refine seq_at (some 139) (v := ?_) rfl (by kernel_rfl) (by kernel_rfl) ?_ ?_
    rotate_left
    · intro w' hw'
      obtain ⟨q0, q1⟩ := KS w' ((Ex.drewN _ _ _).trans ((Ex.drewN _ _ _).trans hw'))
      go_simp
      try with_reducible rfl
    simp only [Act.put, List.setIfInBounds_toArray, List.set_cons_zero, List.set_cons_succ]
    refine seq_at (some 140) (v := ?_) rfl (by kernel_rfl) (by kernel_rfl) ?_ ?_
    rotate_left
    · intro w' hw'
      go_simp
      try with_reducible rfl
    simp only [Act.put, List.setIfInBounds_toArray, List.set_cons_zero, List.set_cons_succ]
    refine seq_at (some 141) (v := ?_) rfl (by kernel_rfl) (by kernel_rfl) ?_ ?_
    rotate_left
    · intro w' hw'
      go_simp
      try with_reducible rfl
    simp only [Act.put, List.setIfInBounds_toArray, List.set_cons_zero, List.set_cons_succ]
    refine seq_at (some 142) (v := ?_) rfl (by kernel_rfl) (by kernel_rfl) ?_ ?_
    rotate_left
    · intro w' hw'
      go_simp
      try with_reducible rfl
    simp only [Act.put, List.setIfInBounds_toArray, List.set_cons_zero, List.set_cons_succ]
    refine seq_at (some 143) (v := ?_) rfl (by kernel_rfl) (by kernel_rfl) ?_ ?_
    rotate_left
    · intro w' hw'
      go_simp
      try with_reducible rfl
    simp only [Act.put, List.setIfInBounds_toArray, List.set_cons_zero, List.set_cons_succ]
    refine seq_at (some 144) (v := ?_) rfl (by kernel_rfl) (by kernel_rfl) ?_ ?_
    rotate_left
    · intro w' hw'
      obtain ⟨q0, q1⟩ := KS w' ((Ex.drewN _ _ _).trans ((Ex.drewN _ _ _).trans hw'))
      go_simp
      try with_reducible rfl
    simp only [Act.put, List.setIfInBounds_toArray, List.set_cons_zero, List.set_cons_succ]
    refine seq_at (some 145) (v := ?_) rfl (by kernel_rfl) (by kernel_rfl) ?_ ?_
    rotate_left
    · intro w' hw'
      go_simp
      try with_reducible rfl
    simp only [Act.put, List.setIfInBounds_toArray, List.set_cons_zero, List.set_cons_succ]
    refine seq_at (some 146) (v := ?_) rfl (by kernel_rfl) (by kernel_rfl) ?_ ?_
    rotate_left
    · intro w' hw'
      go_simp
      try with_reducible rfl
    simp only [Act.put, List.setIfInBounds_toArray, List.set_cons_zero, List.set_cons_succ]
    refine seq_nil ?_
    clear KS
    have hc14 : m - 1 ≤ c14 := by
      obtain ⟨A, c', e, hle⟩ := own_form HO14.out
      injection e with _ _ e
      omega
    go_wp2_with fail
    have es : (b.take (m - 1)).length = m - 1 := by rw [List.length_take]; omega
    have HS : At (w14.drewN (1 + n15)) (some ⟨g14, 0, none⟩) (bv (b.take (m - 1))) := fun j v hj => by
      refine own_at HO14.out j v ?_
      rw [bv, List.getElem?_map, List.getElem?_take] at hj ⊢
      split at hj
      · rw [if_pos (by omega)]
        exact hj
      · cases hj
    have HN := open_any _ c14 _ _ HS (by omega)
    rw [es] at HN
    replace HN := Lib.hid HN
    have HB15 := Lib.hid (Bl.drewN HB14.out (1 + n15))
    clear HS HB14 HO14 HR14 hA2' es
    refine HN.out.mono ?_
    rintro e w16 ⟨g16, ad16, c16, rfl, hr16, hge, hge2, hb16⟩
    have HB16 := Lib.hid (Bl.step HB15.out hb16)
    have G16 : w.heap.size ≤ g16 := by have := HB15.out.size; omega
    clear HB15 HN hb16 hge hge2
    have HD : Hid (Calls Try.prog 22 #[.pointer (some ⟨g16, 0, none⟩), .int .i64 (b.length : Int)] w16 (Rd2 w16 g16 ad16 c16 (b.take (m - 1)) 0 (.slice none 0 0) (.int .i64 4))) := by
      rcases HC.out with h | ⟨x', k', h, h1, h2⟩
      · exact Lib.hid (rdBytes_no _ _ _ _ _ _ hr16 (b.length : Int) (by omega) h)
      · exact Lib.hid (rdBytes_short _ _ _ _ _ _ hr16 (b.length : Int) hbl h (by omega) (by omega))
    clear HC hr16
    go_wp2_with fail
    refine HD.out.mono ?_
    rintro e w17 ⟨rfl, hr17, hg⟩
    have HB17 := Lib.hid (Bl.grown HB16.out hg (fun k hk => by injection hk with hk; omega))
    clear hg HB16 HD hr17
    go_wp2_with (go_at_call 24; refine (num_any _ _).mono ?_; rintro e w' ⟨rfl, rfl⟩)
    refine (known_any _).mono ?_
    rintro e w18 ⟨rfl, hb18⟩
    have HB18 := Lib.hid (Bl.step HB17.out hb18)
    clear hb18 HB17
    go_wp2_with fail
    go_ret
    exact ⟨rfl, HB18.out⟩
end Go.Proofs.Ytemmdlanidepbaa
