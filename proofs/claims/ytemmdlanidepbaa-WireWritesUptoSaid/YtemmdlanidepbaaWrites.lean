/- The law WireWrites's walk. -/
import Derived.Test.YtemmdlanidepbaaKnown
import Derived.Test.YtemmdlanidepbaaSeq
import Derived.Test.YtemmdlanidepbaaJoin
namespace Go.Proofs.Ytemmdlanidepbaa
open Go.RowKit
set_option linter.unusedSimpArgs false

theorem At.pre {w : World} {A : Option Addr} {l m : List UInt8} (h : At w A (bv (l ++ m))) : At w A (bv l) := fun j u hj => by
  refine h j u ?_
  rw [bv_app, List.getElem?_append_left (by have := (List.getElem?_eq_some_iff.1 hj).1; exact this)]
  exact hj
theorem Up.conv {w : World} {base : Nat} {A : Option Addr} {c : Nat} {l : List UInt8} (h : w.ownsRow base 5 1 (.slice A l.length c) l.length (bv l)) :
    Up (fun _ => False) w (fun u => (convert 23 9 (.slice A l.length c)).run Try.prog u = .ok (.string ⟨l.toArray⟩) u) :=
  (Up.bytes (own_at h) (fun _ _ h => h)).map (fun _ hu => run_conv hu)
theorem Up.convAt {w : World} {A : Option Addr} {l : List UInt8} (h : At w A (bv l)) (c : Nat) :
    Up (fun _ => False) w (fun u => (convert 23 9 (.slice A l.length c)).run Try.prog u = .ok (.string ⟨l.toArray⟩) u) :=
  (Up.bytes h (fun _ _ h => h)).map (fun _ hu => run_conv hu)
theorem kept_of {w w' : World} {base n : Nat} {e : TypeId} {size g : Nat} {v : Value} {xs : List Value} (h : w.ownsRow base e size v n xs) (hg : w.grownBy w' (some g)) (hne : ∀ k, v.ownBlock = some k → k ≠ g) : w'.ownsRow base e size v n xs := by
  refine h.kept hg ?_
  cases hv : v.ownBlock with
  | none => exact .inl rfl
  | some k => exact .inr (fun e => hne k hv (by injection e))
theorem cells_kept {w w' : World} {g b : Nat} {v0 v1 v2 v3 : Value} (hg : w.grownBy w' (some g)) (h : Hid (w.cell? ⟨b, 0, none⟩ = some v0 ∧ w.cell? ⟨b, 1, none⟩ = some v1 ∧ w.cell? ⟨b, 2, none⟩ = some v2 ∧ w.cell? ⟨b, 3, none⟩ = some v3)) (hne : b ≠ g) :
    Hid (w'.cell? ⟨b, 0, none⟩ = some v0 ∧ w'.cell? ⟨b, 1, none⟩ = some v1 ∧ w'.cell? ⟨b, 2, none⟩ = some v2 ∧ w'.cell? ⟨b, 3, none⟩ = some v3) := by
  have hb : w'.heap[b]? = w.heap[b]? := hg.block b (World.block_lt_of_cell? w _ h.out.1) (fun e => by injection e with e; exact hne e)
  have k : ∀ {i : Nat} {v : Value}, w.cell? ⟨b, i, none⟩ = some v → w'.cell? ⟨b, i, none⟩ = some v := fun h => (World.cell?_of_block (w := w) hb).trans h
  exact ⟨k h.out.1, k h.out.2.1, k h.out.2.2.1, k h.out.2.2.2⟩
/-- how far 'all' reaches at piece j -/
def tot (L : List (List UInt8)) (j : Nat) : Nat := (L.take j).flatten.length
theorem tot_zero (L : List (List UInt8)) : tot L 0 = 0 := rfl
theorem tot_succ (L : List (List UInt8)) (j : Nat) (hj : j < L.length) : tot L (j + 1) = tot L j + (L[j]).length := by unfold tot; rw [flat_take L j hj, List.length_append]
theorem tot_le (L : List (List UInt8)) (j : Nat) : tot L j ≤ L.flatten.length := flat_le L j
theorem cut_piece (L : List (List UInt8)) (j : Nat) (hj : j < L.length) : (L.flatten.take (tot L (j + 1))).drop (tot L j) = L[j] := by
  have e : L.flatten = (L.take (j + 1)).flatten ++ (L.drop (j + 1)).flatten := by rw [← List.flatten_append, List.take_append_drop]
  have e2 : L.flatten.take (tot L (j + 1)) = (L.take (j + 1)).flatten := by rw [e]; unfold tot; rw [List.take_left]
  rw [e2, flat_take L j hj]
  unfold tot
  rw [List.drop_left]
theorem cut_conv {w : World} {ad : Addr} {c : Nat} {F : List UInt8} (h : At w (some ad) (bv F)) (lo hi : Nat) (_h1 : lo ≤ hi) (h2 : hi ≤ F.length) (h3 : F.length ≤ c) (cc : Nat) :
    (convert 23 9 (.slice (if c = lo then some ad else some (ad.add lo)) (hi - lo) cc)).run Try.prog w = .ok (.string ⟨((F.take hi).drop lo).toArray⟩) w := by
  have k := h.cut (c := c) lo hi (by omega)
  rw [← bv_cut] at k
  have := run_conv (c := cc) k
  rwa [show ((F.take hi).drop lo).length = hi - lo by rw [List.length_drop, List.length_take]; omega] at this
theorem stop_here {p : Prop} (h : Hid p) : p := h.out
set_option maxRecDepth 100000 in
set_option maxHeartbeats 8000000 in
theorem wireWrites_walk (w : World) (n : Nat) (hn : U64 n) (s : Int) (hs : I64 s) (f : Bool) (A : Option Addr) (c : Nat) (l : List UInt8) (hA : At w A (bv l)) (hl : l.length ≤ 1048576)
    (A2 : Option Addr) (c2 : Nat) (L : List (List UInt8)) (hA2 : RowsAt w A2 L) (hn2 : L.length ≤ 1048576) (hl2 : L.flatten.length ≤ 1048576) :
    Calls Try.prog 3 #[.agg #[.int .u64 (n : Int), .int .i64 s, .bool f, .slice A l.length c], .slice A2 L.length c2] w (fun e w' => e = .returned (.bool true) ∧ Below w.heap.size w w') := by
  go_enter Try.func3, Try.ntmps3
  obtain ⟨F, hF⟩ : ∃ F, F = L.flatten := ⟨_, rfl⟩
  have HF := Lib.hid hF
  have hlF : F.length ≤ 1048576 := by rw [hF]; exact hl2
  clear hF
  go_wp2_with (at_builtin; refine stop_here ?_)
  refine Lib.hid ?_
  obtain ⟨w0, hw0⟩ : ∃ w0, w0 = w.alloc (.cells #[.int .u64 (n : Int), .int .i64 s, .bool f, .slice A l.length c] 25) := ⟨_, rfl⟩
  rw [← hw0]
  have hB0 : Below w.heap.size w w0 := by rw [hw0]; exact (Below.refl _ _).alloc (Nat.le_refl _) _
  have hA0 := hA.mono hB0
  refine app_rows w0 rfl _ _ 23 rfl w0.heap.size 5 (.int .u8 0) 1 1 Try.underlying23 infoU8 rfl (by omega) (.slice none 0 0) 0 [] rfl (World.ownsRow_nil _ _ _ _) A l.length c (bv l) rfl (by simp [bv_len]) hA0 (bv_one _) (by simp only [maxLen]; omega) (by omega) (Nat.le_refl _) ?_
  intro v1 w1 ho1 hg1 hv1
  rw [Nat.zero_add, List.nil_append] at ho1
  have hB1 : Below w0.heap.size w0 w1 := Bl.grown (Below.refl _ _) hg1 (fun k hk => by cases hk)
  clear hv1 hg1
  go_wp2_with (at_builtin; refine app_byte rfl _ _ 23 rfl w0.heap.size 5 Try.underlying23 infoU8 v1 l rfl ho1 _ 119 rfl rfl (by omega) hB1.size ?_; intro v2 w2 ho2 hg2 hv2)
  have hB2 := Bl.grown hB1 hg2 (fun k hk => (ho1.lt k hk).1)
  clear hg2 hv2 ho1 hB1
  obtain ⟨g0, c0, rfl⟩ := own_pos ho2 (by simp)
  rw [show (l ++ [(119 : UInt8)]).length = l.length + 1 by simp] at *
  have hc0 : l.length + 1 ≤ c0 := by
    obtain ⟨_, _, e, hle⟩ := own_form ho2
    injection e with _ _ e
    omega
  have hlc : l.length ≤ c0 := by omega
  have U : Up (fun _ => False) w2.drew (fun u => u.cell? ⟨w.heap.size, 0, none⟩ = some (.int .u64 (n : Int)) ∧ u.cell? ⟨w.heap.size, 1, none⟩ = some (.int .i64 s) ∧ u.cell? ⟨w.heap.size, 2, none⟩ = some (.bool f) ∧ u.cell? ⟨w.heap.size, 3, none⟩ = some (.slice A l.length c)) :=
    Up.later ((Up.cell (by rw [hw0]; simp) id).and ((Up.cell (by rw [hw0]; simp) id).and ((Up.cell (by rw [hw0]; simp) id).and (Up.cell (by rw [hw0]; simp) id)))) (Ex.below hB2.drew)
  have HB2 := Lib.hid (Bl.step hB0 hB2.drew)
  have HA2 := Lib.hid (hA0.mono hB2.drew)
  have HO2 : Hid (w2.drew.ownsRow w0.heap.size 5 1 (.slice (some ⟨g0, 0, none⟩) (l.length + 1) c0) (l.length + 1) (bv (l ++ [119]))) := ho2.drew
  have Hg0 : w.heap.size ≤ g0 ∧ g0 < w2.drew.heap.size := ⟨Nat.le_trans hB0.size (ho2.lt g0 rfl).1, (ho2.lt g0 rfl).2⟩
  clear ho2 hB2 hA0 hB0 hw0
  refine wp_region_seq (fun _ => False) [] [(0, true), (1, true), (2, true), (3, true), (4, true), (6, true), (7, true), (8, true), (9, true), (10, true), (5, false), (11, false), (12, true), (13, true)] (by kernel_rfl) (by kernel_rfl) (fun _ _ d _ _ h => by cases d <;> exact h) rfl (by kernel_rfl) ?_
  generalize w2.drew = W2 at *
  refine seq_at (some 20) (v := ?_) rfl (by kernel_rfl) (by kernel_rfl) ?_ ?_
  rotate_left
  · intro w' hw'
    obtain ⟨q0, q1, q2, q3⟩ := U w' hw'
    go_simp
    try with_reducible rfl
  simp only [Act.put, List.setIfInBounds_toArray, List.set_cons_zero, List.set_cons_succ]
  refine seq_at (some 21) (v := ?_) rfl (by kernel_rfl) (by kernel_rfl) ?_ ?_
  rotate_left
  · intro w' hw'
    obtain ⟨q0, q1, q2, q3⟩ := U w' hw'
    go_simp
    try with_reducible rfl
  simp only [Act.put, List.setIfInBounds_toArray, List.set_cons_zero, List.set_cons_succ]
  refine seq_at (some 22) (v := ?_) rfl (by kernel_rfl) (by kernel_rfl) ?_ ?_
  rotate_left
  · intro w' hw'
    obtain ⟨q0, q1, q2, q3⟩ := U w' hw'
    go_simp
    try with_reducible rfl
  simp only [Act.put, List.setIfInBounds_toArray, List.set_cons_zero, List.set_cons_succ]
  refine seq_at (some 23) (v := ?_) rfl (by kernel_rfl) (by kernel_rfl) ?_ ?_
  rotate_left
  · intro w' hw'
    obtain ⟨q0, q1, q2, q3⟩ := U w' hw'
    go_simp
    try with_reducible rfl
  simp only [Act.put, List.setIfInBounds_toArray, List.set_cons_zero, List.set_cons_succ]
  refine seq_at (some 24) (v := ?_) rfl (by kernel_rfl) (by kernel_rfl) ?_ ?_
  rotate_left
  · intro w' hw'
    obtain ⟨q0, q1, q2, q3⟩ := U w' hw'
    go_simp
    try with_reducible rfl
  simp only [Act.put, List.setIfInBounds_toArray, List.set_cons_zero, List.set_cons_succ]
  refine seq_at (some 26) (v := ?_) rfl (by kernel_rfl) (by kernel_rfl) ?_ ?_
  rotate_left
  · intro w' hw'
    obtain ⟨q0, q1, q2, q3⟩ := U w' hw'
    go_simp
    try with_reducible rfl
  simp only [Act.put, List.setIfInBounds_toArray, List.set_cons_zero, List.set_cons_succ]
  refine seq_at (some 27) (v := ?_) rfl (by kernel_rfl) (by kernel_rfl) ?_ ?_
  rotate_left
  · intro w' hw'
    obtain ⟨q0, q1, q2, q3⟩ := U w' hw'
    go_simp
    try with_reducible rfl
  simp only [Act.put, List.setIfInBounds_toArray, List.set_cons_zero, List.set_cons_succ]
  refine seq_at (some 28) (v := ?_) rfl (by kernel_rfl) (by kernel_rfl) ?_ ?_
  rotate_left
  · intro w' hw'
    obtain ⟨q0, q1, q2, q3⟩ := U w' hw'
    go_simp
    try with_reducible rfl
  simp only [Act.put, List.setIfInBounds_toArray, List.set_cons_zero, List.set_cons_succ]
  refine seq_at (some 29) (v := ?_) rfl (by kernel_rfl) (by kernel_rfl) ?_ ?_
  rotate_left
  · intro w' hw'
    obtain ⟨q0, q1, q2, q3⟩ := U w' hw'
    go_simp
    try with_reducible rfl
  simp only [Act.put, List.setIfInBounds_toArray, List.set_cons_zero, List.set_cons_succ]
  refine seq_at (some 30) (v := ?_) rfl (by kernel_rfl) (by kernel_rfl) ?_ ?_
  rotate_left
  · intro w' hw'
    obtain ⟨q0, q1, q2, q3⟩ := U w' hw'
    go_simp
    try with_reducible rfl
  simp only [Act.put, List.setIfInBounds_toArray, List.set_cons_zero, List.set_cons_succ]
  refine seq_eff rfl (by kernel_rfl) (fun K hK => ?_)
  go_simp
  refine (bytes_any (some ⟨g0, 0, none⟩) c0 l _ (At.pre (own_at HO2.out)) (by omega)).mono ?_
  rintro e w3 ⟨ga, ca, rfl, hoa, hb3⟩
  refine hK.out _ _ (.inl (Ex.below hb3)) ?_
  try simp only [Act.put, List.setIfInBounds_toArray, List.set_cons_zero, List.set_cons_succ]
  clear hK
  have HB3 := Lib.hid (Bl.step HB2.out hb3)
  replace U := U.later (Ex.below hb3)
  have HA3 := Lib.hid (HA2.out.mono hb3)
  have HO3 := Lib.hid (own_below HO2.out hb3)
  have HOa := Lib.hid hoa
  have Hga : g0 < ga ∧ ga < w3.heap.size := ⟨Nat.lt_of_lt_of_le Hg0.2 (hoa.lt ga rfl).1, (hoa.lt ga rfl).2⟩
  clear hoa hb3 HB2 HA2 HO2
  refine seq_eff rfl (by kernel_rfl) (fun K hK => ?_)
  go_simp
  refine (bytes_any (some ⟨g0, 0, none⟩) c0 l _ (At.pre (own_at HO3.out)) (by omega)).mono ?_
  rintro e w4 ⟨gb, cb, rfl, hob, hb4⟩
  refine hK.out _ _ (.inl (Ex.below hb4)) ?_
  try simp only [Act.put, List.setIfInBounds_toArray, List.set_cons_zero, List.set_cons_succ]
  clear hK
  have HB4 := Lib.hid (Bl.step HB3.out hb4)
  replace U := U.later (Ex.below hb4)
  have HA4 := Lib.hid (HA3.out.mono hb4)
  have HO4 := Lib.hid (own_below HO3.out hb4)
  have HOa4 := Lib.hid (own_below HOa.out hb4)
  have HOb := Lib.hid hob
  have Hgb : ga < gb ∧ gb < w4.heap.size := ⟨Nat.lt_of_lt_of_le Hga.2 (hob.lt gb rfl).1, (hob.lt gb rfl).2⟩
  clear hob hb4 HB3 HA3 HO3 HOa
  refine seq_at (some 6) (v := ?_) rfl (by kernel_rfl) (by kernel_rfl) ?_ ?_
  rotate_left
  · intro w' hw'
    go_simp
    try with_reducible rfl
  simp only [Act.put, List.setIfInBounds_toArray, List.set_cons_zero, List.set_cons_succ]
  refine seq_at (some 7) (v := ?_) rfl (by kernel_rfl) (by kernel_rfl) ?_ ?_
  rotate_left
  · intro w' hw'
    go_simp
    try with_reducible rfl
  simp only [Act.put, List.setIfInBounds_toArray, List.set_cons_zero, List.set_cons_succ]
  refine seq_nil ?_
  go_wp2_with fail
  refine wp_region_seq (fun _ => False) [] [(0, true), (1, true), (3, true), (4, true), (2, false), (5, false), (6, true), (7, true)] (by kernel_rfl) (by kernel_rfl) (fun _ _ d _ _ h => by cases d <;> exact h) rfl (by kernel_rfl) ?_
  replace U := U.later (Ex.drewN (fun _ => False) _ 1)
  have HB4' := Lib.hid (Bl.drewN HB4.out 1)
  clear HB4
  refine seq_at (some 32) (v := ?_) rfl (by kernel_rfl) (by kernel_rfl) ?_ ?_
  rotate_left
  · intro w' hw'
    obtain ⟨q0, q1, q2, q3⟩ := U w' hw'
    go_simp
    try with_reducible rfl
  simp only [Act.put, List.setIfInBounds_toArray, List.set_cons_zero, List.set_cons_succ]
  refine seq_at (some 33) (v := ?_) rfl (by kernel_rfl) (by kernel_rfl) ?_ ?_
  rotate_left
  · intro w' hw'
    obtain ⟨q0, q1, q2, q3⟩ := U w' hw'
    go_simp
    try with_reducible rfl
  simp only [Act.put, List.setIfInBounds_toArray, List.set_cons_zero, List.set_cons_succ]
  refine seq_at (some 35) (v := ?_) rfl (by kernel_rfl) (by kernel_rfl) ?_ ?_
  rotate_left
  · intro w' hw'
    obtain ⟨q0, q1, q2, q3⟩ := U w' hw'
    go_simp
    try with_reducible rfl
  simp only [Act.put, List.setIfInBounds_toArray, List.set_cons_zero, List.set_cons_succ]
  refine seq_at (some 36) (v := ?_) rfl (by kernel_rfl) (by kernel_rfl) ?_ ?_
  rotate_left
  · intro w' hw'
    obtain ⟨q0, q1, q2, q3⟩ := U w' hw'
    go_simp
    try with_reducible rfl
  simp only [Act.put, List.setIfInBounds_toArray, List.set_cons_zero, List.set_cons_succ]
  refine seq_eff rfl (by kernel_rfl) (fun K hK => ?_)
  go_simp
  refine (number_any n hn _).mono ?_
  rintro e w5 ⟨gn, cn, rfl, hon, hb5⟩
  refine hK.out _ _ (.inl (Ex.below hb5)) ?_
  try simp only [Act.put, List.setIfInBounds_toArray, List.set_cons_zero, List.set_cons_succ]
  clear hK
  have HB5 := Lib.hid (Bl.step HB4'.out hb5)
  replace U := U.later (Ex.below hb5)
  have HA5 := Lib.hid ((At.mono HA4.out (Below.refl _ _).drew).mono hb5)
  have HO5 := Lib.hid (own_below HO4.out.drew hb5)
  have HOa5 := Lib.hid (own_below HOa4.out.drew hb5)
  have HOb5 := Lib.hid (own_below HOb.out.drew hb5)
  have HOn := Lib.hid hon
  have Hgn : gb < gn ∧ gn < w5.heap.size := ⟨Nat.lt_of_lt_of_le Hgb.2 (hon.lt gn rfl).1, (hon.lt gn rfl).2⟩
  clear hon hb5 HB4' HA4 HO4 HOa4 HOb
  refine seq_eff rfl (by kernel_rfl) (fun K hK => ?_)
  go_simp
  refine (number_any n hn _).mono ?_
  rintro e w6 ⟨gm, cm, rfl, hom, hb6⟩
  refine hK.out _ _ (.inl (Ex.below hb6)) ?_
  try simp only [Act.put, List.setIfInBounds_toArray, List.set_cons_zero, List.set_cons_succ]
  clear hK
  have HB6 := Lib.hid (Bl.step HB5.out hb6)
  replace U := U.later (Ex.below hb6)
  have HA6 := Lib.hid (HA5.out.mono hb6)
  have HO6 := Lib.hid (own_below HO5.out hb6)
  have HOa6 := Lib.hid (own_below HOa5.out hb6)
  have HOb6 := Lib.hid (own_below HOb5.out hb6)
  have HOn6 := Lib.hid (own_below HOn.out hb6)
  have HOm6 := Lib.hid hom
  have Hgm : gn < gm ∧ gm < w6.heap.size := ⟨Nat.lt_of_lt_of_le Hgn.2 (hom.lt gm rfl).1, (hom.lt gm rfl).2⟩
  clear hom hb6 HB5 HA5 HO5 HOa5 HOb5 HOn
  refine seq_at (some 8) (v := ?_) rfl (by kernel_rfl) (by kernel_rfl) ?_ ?_
  rotate_left
  · intro w' hw'
    go_simp
    try with_reducible rfl
  simp only [Act.put, List.setIfInBounds_toArray, List.set_cons_zero, List.set_cons_succ]
  refine seq_at (some 9) (v := ?_) rfl (by kernel_rfl) (by kernel_rfl) ?_ ?_
  rotate_left
  · intro w' hw'
    go_simp
    try with_reducible rfl
  simp only [Act.put, List.setIfInBounds_toArray, List.set_cons_zero, List.set_cons_succ]
  refine seq_nil ?_
  go_wp2_with fail
  have H0 : w6.ownsRow w6.heap.size 5 1 (.slice none 0 0) 0 [] := World.ownsRow_nil _ _ _ _
  go_loopg [10, 11] L.length (fun k v i wr => ∃ j : Nat, i = .int .i64 (j : Int) ∧ Hid (j + k = L.length) ∧ wr.ownsRow w6.heap.size 5 1 v (L.take j).flatten.length (bv (L.take j).flatten) ∧ Below w6.heap.size w6 wr)
  case atStart => exact ⟨0, rfl, Nat.zero_add _, H0, Below.refl _ _⟩
  case round =>
    clear H0
    obtain ⟨j, rfl, hj, ho, hb⟩ := hrel
    by_cases hlt : j < L.length
    · obtain ⟨ad, Ai, ci, rfl, hcell, hci, hAi⟩ := (hA2.mono (Bl.step HB6.out hb)).get j hlt
      have hfl := flat_le L (j + 1)
      have hft := Lib.hid (flat_take L j hlt)
      have hfn : (L.take j).flatten.length + (L[j]).length ≤ 1048576 := by rw [hft.out, List.length_append] at hfl; omega
      clear hfl
      go_wp2_with (at_builtin; refine app_rows _ rfl _ _ 23 rfl w6.heap.size 5 (.int .u8 0) 1 1 Try.underlying23 infoU8 rfl (by omega) u10 _ _ rfl ho Ai (L[j]).length ci (bv (L[j])) rfl (by simp [bv_len]) hAi (bv_one _) (by simp only [maxLen]; omega) (by omega) hb.size ?_; intro v' w' ho' hg hv')
      go_roundg (gk - 1)
      case measure => have := hj.out; omega
      case rel => exact ⟨j + 1, (by go_num), (by have := hj.out; show _ = _; omega), (by rw [hft.out, bv_app, List.length_append]; exact ho'), Bl.grown hb hg (fun k hk => (ho.lt k hk).1)⟩
    · have e : L.take j = L := List.take_of_length_le (by omega)
      rw [e, ← HF.out] at ho
      have HO7 := Lib.hid (own_below HO6.out hb)
      have HB7 := Lib.hid (Bl.step HB6.out hb)
      have HA7 := Lib.hid (HA6.out.mono hb)
      have HOa7 := Lib.hid (own_below HOa6.out hb)
      have HOb7 := Lib.hid (own_below HOb6.out hb)
      have HOn7 := Lib.hid (own_below HOn6.out hb)
      have HOm7 := Lib.hid (own_below HOm6.out hb)
      replace U := U.later (Ex.below hb)
      have HOl7 := Lib.hid ho
      have hs7 := hb.size
      clear hb ho e hj HO6 HB6 HA6 HOa6 HOb6 HOn6 HOm6
      go_wp2_with fail
      clear hlt
      have hjn := join_any A2 c2 L _ (hA2.mono HB7.out) (by omega) (by omega)
      rw [← HF.out] at hjn
      refine hjn.mono ?_
      clear hjn
      rintro e w8 ⟨gj, cj, rfl, hoj, hb8⟩
      have HB8 := Lib.hid (Bl.step HB7.out hb8)
      replace U := U.later (Ex.below hb8)
      have HA8 := Lib.hid (HA7.out.mono hb8)
      have HO8 := Lib.hid (own_below HO7.out hb8)
      have HOa8 := Lib.hid (own_below HOa7.out hb8)
      have HOb8 := Lib.hid (own_below HOb7.out hb8)
      have HOn8 := Lib.hid (own_below HOn7.out hb8)
      have HOm8 := Lib.hid (own_below HOm7.out hb8)
      have HOl8 := Lib.hid (own_below HOl7.out hb8)
      have HOj8 := Lib.hid hoj
      have Hgj : wr.heap.size ≤ gj ∧ gj < w8.heap.size := ⟨(hoj.lt gj rfl).1, (hoj.lt gj rfl).2⟩
      have Hul : ∀ k, u10.ownBlock = some k → w6.heap.size ≤ k ∧ k < wr.heap.size := fun k hk => HOl7.out.lt k hk
      clear hoj hb8 HB7 HA7 HO7 HOa7 HOb7 HOn7 HOm7 HOl7
      obtain ⟨Al, cl, rfl, hcl⟩ := own_form HOl8.out
      replace Hul := Lib.hid Hul
      go_wp2_with fail
      replace U := ((((U.and (Up.conv HOa8.out)).and (Up.conv HOn8.out)).and (Up.conv HOj8.out)).and (Up.conv HOl8.out)).later (Ex.drewN (fun _ => False) _ 1)
      have HX0 : Hid (Below w8.heap.size w8 w8.drew) := (Below.refl _ _).drew
      refine wp_region_seq (fun _ => False) [] [(0, true), (1, true), (2, true), (3, true), (4, false), (5, true), (6, true), (7, true), (8, true), (9, true), (10, true), (11, true), (12, false), (13, true), (14, true), (15, true), (16, true), (17, true), (18, true), (21, true), (22, true), (19, false), (20, true), (23, false), (24, true), (25, true), (26, true), (27, true), (28, true), (29, true), (32, true), (33, true), (30, false), (31, true), (34, false), (35, true), (36, true), (37, true), (38, true), (39, true), (40, true), (41, true), (42, true), (43, true), (44, true)] (by kernel_rfl) (by kernel_rfl) (fun _ _ d _ _ h => by cases d <;> exact h) rfl (by kernel_rfl) ?_
      refine seq_at (some 52) (v := ?_) rfl (by kernel_rfl) (by kernel_rfl) ?_ ?_
      rotate_left
      · intro w' hw'
        obtain ⟨⟨⟨⟨⟨q0, q1, q2, q3⟩, k1⟩, k2⟩, k3⟩, k4⟩ := U w' hw'
        go_simp
        try with_reducible rfl
      simp only [Act.put, List.setIfInBounds_toArray, List.set_cons_zero, List.set_cons_succ]
      refine seq_at (some 53) (v := ?_) rfl (by kernel_rfl) (by kernel_rfl) ?_ ?_
      rotate_left
      · intro w' hw'
        obtain ⟨⟨⟨⟨⟨q0, q1, q2, q3⟩, k1⟩, k2⟩, k3⟩, k4⟩ := U w' hw'
        go_simp
        try with_reducible rfl
      simp only [Act.put, List.setIfInBounds_toArray, List.set_cons_zero, List.set_cons_succ]
      refine seq_at (some 54) (v := ?_) rfl (by kernel_rfl) (by kernel_rfl) ?_ ?_
      rotate_left
      · intro w' hw'
        obtain ⟨⟨⟨⟨⟨q0, q1, q2, q3⟩, k1⟩, k2⟩, k3⟩, k4⟩ := U w' hw'
        go_simp
        try with_reducible rfl
      simp only [Act.put, List.setIfInBounds_toArray, List.set_cons_zero, List.set_cons_succ]
      refine seq_at (some 55) (v := ?_) rfl (by kernel_rfl) (by kernel_rfl) ?_ ?_
      rotate_left
      · intro w' hw'
        obtain ⟨⟨⟨⟨⟨q0, q1, q2, q3⟩, k1⟩, k2⟩, k3⟩, k4⟩ := U w' hw'
        go_simp
        try with_reducible rfl
      simp only [Act.put, List.setIfInBounds_toArray, List.set_cons_zero, List.set_cons_succ]
      refine seq_eff rfl (by kernel_rfl) (fun K hK => ?_)
      go_simp
      refine (refBytes_any A c l _ (HA8.out.mono HX0.out) (by omega)).mono ?_
      rintro e x1 ⟨h1, d1, rfl, ho, hb⟩
      refine hK.out _ _ (.inl (Ex.below hb)) ?_
      try simp only [Act.put, List.setIfInBounds_toArray, List.set_cons_zero, List.set_cons_succ]
      clear hK
      have HX1 := Lib.hid (Bl.step HX0.out hb)
      replace U := (U.later (Ex.below hb)).and (Up.conv ho)
      clear ho hb HX0
      refine seq_at (some 57) (v := ?_) rfl (by kernel_rfl) (by kernel_rfl) ?_ ?_
      rotate_left
      · intro w' hw'
        obtain ⟨⟨⟨⟨⟨⟨q0, q1, q2, q3⟩, k1⟩, k2⟩, k3⟩, k4⟩, k5⟩ := U w' hw'
        go_simp
        try with_reducible rfl
      simp only [Act.put, List.setIfInBounds_toArray, List.set_cons_zero, List.set_cons_succ]
      refine seq_at (some 58) (v := ?_) rfl (by kernel_rfl) (by kernel_rfl) ?_ ?_
      rotate_left
      · intro w' hw'
        obtain ⟨⟨⟨⟨⟨⟨q0, q1, q2, q3⟩, k1⟩, k2⟩, k3⟩, k4⟩, k5⟩ := U w' hw'
        go_simp
        try with_reducible rfl
      simp only [Act.put, List.setIfInBounds_toArray, List.set_cons_zero, List.set_cons_succ]
      refine seq_at (some 59) (v := ?_) rfl (by kernel_rfl) (by kernel_rfl) ?_ ?_
      rotate_left
      · intro w' hw'
        obtain ⟨⟨⟨⟨⟨⟨q0, q1, q2, q3⟩, k1⟩, k2⟩, k3⟩, k4⟩, k5⟩ := U w' hw'
        go_simp
        try with_reducible rfl
      simp only [Act.put, List.setIfInBounds_toArray, List.set_cons_zero, List.set_cons_succ]
      refine seq_at (some 60) (v := ?_) rfl (by kernel_rfl) (by kernel_rfl) ?_ ?_
      rotate_left
      · intro w' hw'
        obtain ⟨⟨⟨⟨⟨⟨q0, q1, q2, q3⟩, k1⟩, k2⟩, k3⟩, k4⟩, k5⟩ := U w' hw'
        go_simp
        try with_reducible rfl
      simp only [Act.put, List.setIfInBounds_toArray, List.set_cons_zero, List.set_cons_succ]
      refine seq_at (some 61) (v := ?_) rfl (by kernel_rfl) (by kernel_rfl) ?_ ?_
      rotate_left
      · intro w' hw'
        obtain ⟨⟨⟨⟨⟨⟨q0, q1, q2, q3⟩, k1⟩, k2⟩, k3⟩, k4⟩, k5⟩ := U w' hw'
        go_simp
        try with_reducible rfl
      simp only [Act.put, List.setIfInBounds_toArray, List.set_cons_zero, List.set_cons_succ]
      refine seq_at (some 62) (v := ?_) rfl (by kernel_rfl) (by kernel_rfl) ?_ ?_
      rotate_left
      · intro w' hw'
        obtain ⟨⟨⟨⟨⟨⟨q0, q1, q2, q3⟩, k1⟩, k2⟩, k3⟩, k4⟩, k5⟩ := U w' hw'
        go_simp
        try with_reducible rfl
      simp only [Act.put, List.setIfInBounds_toArray, List.set_cons_zero, List.set_cons_succ]
      refine seq_at (some 63) (v := ?_) rfl (by kernel_rfl) (by kernel_rfl) ?_ ?_
      rotate_left
      · intro w' hw'
        obtain ⟨⟨⟨⟨⟨⟨q0, q1, q2, q3⟩, k1⟩, k2⟩, k3⟩, k4⟩, k5⟩ := U w' hw'
        go_simp
        try with_reducible rfl
      simp only [Act.put, List.setIfInBounds_toArray, List.set_cons_zero, List.set_cons_succ]
      refine seq_eff rfl (by kernel_rfl) (fun K hK => ?_)
      go_simp
      refine (refNumber_any n hn _).mono ?_
      rintro e x2 ⟨h2, d2, rfl, ho, hb⟩
      refine hK.out _ _ (.inl (Ex.below hb)) ?_
      try simp only [Act.put, List.setIfInBounds_toArray, List.set_cons_zero, List.set_cons_succ]
      clear hK
      have HX2 := Lib.hid (Bl.step HX1.out hb)
      replace U := (U.later (Ex.below hb)).and (Up.conv ho)
      clear ho hb HX1
      refine seq_at (some 65) (v := ?_) rfl (by kernel_rfl) (by kernel_rfl) ?_ ?_
      rotate_left
      · intro w' hw'
        obtain ⟨⟨⟨⟨⟨⟨⟨q0, q1, q2, q3⟩, k1⟩, k2⟩, k3⟩, k4⟩, k5⟩, k6⟩ := U w' hw'
        go_simp
        try with_reducible rfl
      simp only [Act.put, List.setIfInBounds_toArray, List.set_cons_zero, List.set_cons_succ]
      refine seq_at (some 66) (v := ?_) rfl (by kernel_rfl) (by kernel_rfl) ?_ ?_
      rotate_left
      · intro w' hw'
        obtain ⟨⟨⟨⟨⟨⟨⟨q0, q1, q2, q3⟩, k1⟩, k2⟩, k3⟩, k4⟩, k5⟩, k6⟩ := U w' hw'
        go_simp
        try with_reducible rfl
      simp only [Act.put, List.setIfInBounds_toArray, List.set_cons_zero, List.set_cons_succ]
      refine seq_at (some 67) (v := ?_) rfl (by kernel_rfl) (by kernel_rfl) ?_ ?_
      rotate_left
      · intro w' hw'
        obtain ⟨⟨⟨⟨⟨⟨⟨q0, q1, q2, q3⟩, k1⟩, k2⟩, k3⟩, k4⟩, k5⟩, k6⟩ := U w' hw'
        go_simp
        try with_reducible rfl
      simp only [Act.put, List.setIfInBounds_toArray, List.set_cons_zero, List.set_cons_succ]
      refine seq_at (some 68) (v := ?_) rfl (by kernel_rfl) (by kernel_rfl) ?_ ?_
      rotate_left
      · intro w' hw'
        obtain ⟨⟨⟨⟨⟨⟨⟨q0, q1, q2, q3⟩, k1⟩, k2⟩, k3⟩, k4⟩, k5⟩, k6⟩ := U w' hw'
        go_simp
        try with_reducible rfl
      simp only [Act.put, List.setIfInBounds_toArray, List.set_cons_zero, List.set_cons_succ]
      refine seq_at (some 69) (v := ?_) rfl (by kernel_rfl) (by kernel_rfl) ?_ ?_
      rotate_left
      · intro w' hw'
        obtain ⟨⟨⟨⟨⟨⟨⟨q0, q1, q2, q3⟩, k1⟩, k2⟩, k3⟩, k4⟩, k5⟩, k6⟩ := U w' hw'
        go_simp
        try with_reducible rfl
      simp only [Act.put, List.setIfInBounds_toArray, List.set_cons_zero, List.set_cons_succ]
      refine seq_at (some 70) (v := ?_) rfl (by kernel_rfl) (by kernel_rfl) ?_ ?_
      rotate_left
      · intro w' hw'
        obtain ⟨⟨⟨⟨⟨⟨⟨q0, q1, q2, q3⟩, k1⟩, k2⟩, k3⟩, k4⟩, k5⟩, k6⟩ := U w' hw'
        go_simp
        try with_reducible rfl
      simp only [Act.put, List.setIfInBounds_toArray, List.set_cons_zero, List.set_cons_succ]
      refine seq_at (some 73) (v := ?_) rfl (by kernel_rfl) (by kernel_rfl) ?_ ?_
      rotate_left
      · intro w' hw'
        obtain ⟨⟨⟨⟨⟨⟨⟨q0, q1, q2, q3⟩, k1⟩, k2⟩, k3⟩, k4⟩, k5⟩, k6⟩ := U w' hw'
        go_simp
        try with_reducible rfl
      simp only [Act.put, List.setIfInBounds_toArray, List.set_cons_zero, List.set_cons_succ]
      refine seq_at (some 74) (v := ?_) rfl (by kernel_rfl) (by kernel_rfl) ?_ ?_
      rotate_left
      · intro w' hw'
        obtain ⟨⟨⟨⟨⟨⟨⟨q0, q1, q2, q3⟩, k1⟩, k2⟩, k3⟩, k4⟩, k5⟩, k6⟩ := U w' hw'
        go_simp
        try with_reducible rfl
      simp only [Act.put, List.setIfInBounds_toArray, List.set_cons_zero, List.set_cons_succ]
      refine seq_eff rfl (by kernel_rfl) (fun K hK => ?_)
      go_simp
      refine (signed_any s hs _).mono ?_
      rintro e x3 ⟨h3, d3, rfl, ho, hb⟩
      refine hK.out _ _ (.inl (Ex.below hb)) ?_
      try simp only [Act.put, List.setIfInBounds_toArray, List.set_cons_zero, List.set_cons_succ]
      clear hK
      have HX3 := Lib.hid (Bl.step HX2.out hb)
      replace U := (U.later (Ex.below hb)).and (Up.conv ho)
      clear ho hb HX2
      refine seq_at (some 72) (v := ?_) rfl (by kernel_rfl) (by kernel_rfl) ?_ ?_
      rotate_left
      · intro w' hw'
        obtain ⟨⟨⟨⟨⟨⟨⟨⟨q0, q1, q2, q3⟩, k1⟩, k2⟩, k3⟩, k4⟩, k5⟩, k6⟩, k7⟩ := U w' hw'
        go_simp
        try with_reducible rfl
      simp only [Act.put, List.setIfInBounds_toArray, List.set_cons_zero, List.set_cons_succ]
      refine seq_eff rfl (by kernel_rfl) (fun K hK => ?_)
      go_simp
      refine (refSigned_any s hs _).mono ?_
      rintro e x4 ⟨h4, d4, rfl, ho, hb⟩
      refine hK.out _ _ (.inl (Ex.below hb)) ?_
      try simp only [Act.put, List.setIfInBounds_toArray, List.set_cons_zero, List.set_cons_succ]
      clear hK
      have HX4 := Lib.hid (Bl.step HX3.out hb)
      replace U := (U.later (Ex.below hb)).and (Up.conv ho)
      clear ho hb HX3
      refine seq_at (some 76) (v := ?_) rfl (by kernel_rfl) (by kernel_rfl) ?_ ?_
      rotate_left
      · intro w' hw'
        obtain ⟨⟨⟨⟨⟨⟨⟨⟨⟨q0, q1, q2, q3⟩, k1⟩, k2⟩, k3⟩, k4⟩, k5⟩, k6⟩, k7⟩, k8⟩ := U w' hw'
        go_simp
        try with_reducible rfl
      simp only [Act.put, List.setIfInBounds_toArray, List.set_cons_zero, List.set_cons_succ]
      refine seq_at (some 77) (v := ?_) rfl (by kernel_rfl) (by kernel_rfl) ?_ ?_
      rotate_left
      · intro w' hw'
        obtain ⟨⟨⟨⟨⟨⟨⟨⟨⟨q0, q1, q2, q3⟩, k1⟩, k2⟩, k3⟩, k4⟩, k5⟩, k6⟩, k7⟩, k8⟩ := U w' hw'
        go_simp
        try with_reducible rfl
      simp only [Act.put, List.setIfInBounds_toArray, List.set_cons_zero, List.set_cons_succ]
      refine seq_at (some 78) (v := ?_) rfl (by kernel_rfl) (by kernel_rfl) ?_ ?_
      rotate_left
      · intro w' hw'
        obtain ⟨⟨⟨⟨⟨⟨⟨⟨⟨q0, q1, q2, q3⟩, k1⟩, k2⟩, k3⟩, k4⟩, k5⟩, k6⟩, k7⟩, k8⟩ := U w' hw'
        go_simp
        try with_reducible rfl
      simp only [Act.put, List.setIfInBounds_toArray, List.set_cons_zero, List.set_cons_succ]
      refine seq_at (some 79) (v := ?_) rfl (by kernel_rfl) (by kernel_rfl) ?_ ?_
      rotate_left
      · intro w' hw'
        obtain ⟨⟨⟨⟨⟨⟨⟨⟨⟨q0, q1, q2, q3⟩, k1⟩, k2⟩, k3⟩, k4⟩, k5⟩, k6⟩, k7⟩, k8⟩ := U w' hw'
        go_simp
        try with_reducible rfl
      simp only [Act.put, List.setIfInBounds_toArray, List.set_cons_zero, List.set_cons_succ]
      refine seq_at (some 80) (v := ?_) rfl (by kernel_rfl) (by kernel_rfl) ?_ ?_
      rotate_left
      · intro w' hw'
        obtain ⟨⟨⟨⟨⟨⟨⟨⟨⟨q0, q1, q2, q3⟩, k1⟩, k2⟩, k3⟩, k4⟩, k5⟩, k6⟩, k7⟩, k8⟩ := U w' hw'
        go_simp
        try with_reducible rfl
      simp only [Act.put, List.setIfInBounds_toArray, List.set_cons_zero, List.set_cons_succ]
      refine seq_at (some 81) (v := ?_) rfl (by kernel_rfl) (by kernel_rfl) ?_ ?_
      rotate_left
      · intro w' hw'
        obtain ⟨⟨⟨⟨⟨⟨⟨⟨⟨q0, q1, q2, q3⟩, k1⟩, k2⟩, k3⟩, k4⟩, k5⟩, k6⟩, k7⟩, k8⟩ := U w' hw'
        go_simp
        try with_reducible rfl
      simp only [Act.put, List.setIfInBounds_toArray, List.set_cons_zero, List.set_cons_succ]
      refine seq_at (some 84) (v := ?_) rfl (by kernel_rfl) (by kernel_rfl) ?_ ?_
      rotate_left
      · intro w' hw'
        obtain ⟨⟨⟨⟨⟨⟨⟨⟨⟨q0, q1, q2, q3⟩, k1⟩, k2⟩, k3⟩, k4⟩, k5⟩, k6⟩, k7⟩, k8⟩ := U w' hw'
        go_simp
        try with_reducible rfl
      simp only [Act.put, List.setIfInBounds_toArray, List.set_cons_zero, List.set_cons_succ]
      refine seq_at (some 85) (v := ?_) rfl (by kernel_rfl) (by kernel_rfl) ?_ ?_
      rotate_left
      · intro w' hw'
        obtain ⟨⟨⟨⟨⟨⟨⟨⟨⟨q0, q1, q2, q3⟩, k1⟩, k2⟩, k3⟩, k4⟩, k5⟩, k6⟩, k7⟩, k8⟩ := U w' hw'
        go_simp
        try with_reducible rfl
      simp only [Act.put, List.setIfInBounds_toArray, List.set_cons_zero, List.set_cons_succ]
      refine seq_eff rfl (by kernel_rfl) (fun K hK => ?_)
      go_simp
      refine (flag_any f _).mono ?_
      rintro e x5 ⟨h5, d5, rfl, ho, hb⟩
      refine hK.out _ _ (.inl (Ex.below hb)) ?_
      try simp only [Act.put, List.setIfInBounds_toArray, List.set_cons_zero, List.set_cons_succ]
      clear hK
      have HX5 := Lib.hid (Bl.step HX4.out hb)
      replace U := (U.later (Ex.below hb)).and (Up.conv ho)
      clear ho hb HX4
      refine seq_at (some 83) (v := ?_) rfl (by kernel_rfl) (by kernel_rfl) ?_ ?_
      rotate_left
      · intro w' hw'
        obtain ⟨⟨⟨⟨⟨⟨⟨⟨⟨⟨q0, q1, q2, q3⟩, k1⟩, k2⟩, k3⟩, k4⟩, k5⟩, k6⟩, k7⟩, k8⟩, k9⟩ := U w' hw'
        go_simp
        try with_reducible rfl
      simp only [Act.put, List.setIfInBounds_toArray, List.set_cons_zero, List.set_cons_succ]
      refine seq_eff rfl (by kernel_rfl) (fun K hK => ?_)
      go_simp
      refine (refFlag_any f _).mono ?_
      rintro e x6 ⟨h6, d6, rfl, ho, hb⟩
      refine hK.out _ _ (.inl (Ex.below hb)) ?_
      try simp only [Act.put, List.setIfInBounds_toArray, List.set_cons_zero, List.set_cons_succ]
      clear hK
      have HX6 := Lib.hid (Bl.step HX5.out hb)
      replace U := (U.later (Ex.below hb)).and (Up.conv ho)
      clear ho hb HX5
      refine seq_at (some 87) (v := ?_) rfl (by kernel_rfl) (by kernel_rfl) ?_ ?_
      rotate_left
      · intro w' hw'
        obtain ⟨⟨⟨⟨⟨⟨⟨⟨⟨⟨⟨q0, q1, q2, q3⟩, k1⟩, k2⟩, k3⟩, k4⟩, k5⟩, k6⟩, k7⟩, k8⟩, k9⟩, k10⟩ := U w' hw'
        go_simp
        try with_reducible rfl
      simp only [Act.put, List.setIfInBounds_toArray, List.set_cons_zero, List.set_cons_succ]
      refine seq_at (some 88) (v := ?_) rfl (by kernel_rfl) (by kernel_rfl) ?_ ?_
      rotate_left
      · intro w' hw'
        obtain ⟨⟨⟨⟨⟨⟨⟨⟨⟨⟨⟨q0, q1, q2, q3⟩, k1⟩, k2⟩, k3⟩, k4⟩, k5⟩, k6⟩, k7⟩, k8⟩, k9⟩, k10⟩ := U w' hw'
        go_simp
        try with_reducible rfl
      simp only [Act.put, List.setIfInBounds_toArray, List.set_cons_zero, List.set_cons_succ]
      refine seq_at (some 89) (v := ?_) rfl (by kernel_rfl) (by kernel_rfl) ?_ ?_
      rotate_left
      · intro w' hw'
        obtain ⟨⟨⟨⟨⟨⟨⟨⟨⟨⟨⟨q0, q1, q2, q3⟩, k1⟩, k2⟩, k3⟩, k4⟩, k5⟩, k6⟩, k7⟩, k8⟩, k9⟩, k10⟩ := U w' hw'
        go_simp
        try with_reducible rfl
      simp only [Act.put, List.setIfInBounds_toArray, List.set_cons_zero, List.set_cons_succ]
      refine seq_at (some 90) (v := ?_) rfl (by kernel_rfl) (by kernel_rfl) ?_ ?_
      rotate_left
      · intro w' hw'
        obtain ⟨⟨⟨⟨⟨⟨⟨⟨⟨⟨⟨q0, q1, q2, q3⟩, k1⟩, k2⟩, k3⟩, k4⟩, k5⟩, k6⟩, k7⟩, k8⟩, k9⟩, k10⟩ := U w' hw'
        go_simp
        try with_reducible rfl
      simp only [Act.put, List.setIfInBounds_toArray, List.set_cons_zero, List.set_cons_succ]
      refine seq_at (some 91) (v := ?_) rfl (by kernel_rfl) (by kernel_rfl) ?_ ?_
      rotate_left
      · intro w' hw'
        obtain ⟨⟨⟨⟨⟨⟨⟨⟨⟨⟨⟨q0, q1, q2, q3⟩, k1⟩, k2⟩, k3⟩, k4⟩, k5⟩, k6⟩, k7⟩, k8⟩, k9⟩, k10⟩ := U w' hw'
        go_simp
        try with_reducible rfl
      simp only [Act.put, List.setIfInBounds_toArray, List.set_cons_zero, List.set_cons_succ]
      refine seq_at (some 92) (v := ?_) rfl (by kernel_rfl) (by kernel_rfl) ?_ ?_
      rotate_left
      · intro w' hw'
        obtain ⟨⟨⟨⟨⟨⟨⟨⟨⟨⟨⟨q0, q1, q2, q3⟩, k1⟩, k2⟩, k3⟩, k4⟩, k5⟩, k6⟩, k7⟩, k8⟩, k9⟩, k10⟩ := U w' hw'
        go_simp
        try with_reducible rfl
      simp only [Act.put, List.setIfInBounds_toArray, List.set_cons_zero, List.set_cons_succ]
      refine seq_at (some 93) (v := ?_) rfl (by kernel_rfl) (by kernel_rfl) ?_ ?_
      rotate_left
      · intro w' hw'
        obtain ⟨⟨⟨⟨⟨⟨⟨⟨⟨⟨⟨q0, q1, q2, q3⟩, k1⟩, k2⟩, k3⟩, k4⟩, k5⟩, k6⟩, k7⟩, k8⟩, k9⟩, k10⟩ := U w' hw'
        go_simp
        try with_reducible rfl
      simp only [Act.put, List.setIfInBounds_toArray, List.set_cons_zero, List.set_cons_succ]
      refine seq_at (some 94) (v := ?_) rfl (by kernel_rfl) (by kernel_rfl) ?_ ?_
      rotate_left
      · intro w' hw'
        obtain ⟨⟨⟨⟨⟨⟨⟨⟨⟨⟨⟨q0, q1, q2, q3⟩, k1⟩, k2⟩, k3⟩, k4⟩, k5⟩, k6⟩, k7⟩, k8⟩, k9⟩, k10⟩ := U w' hw'
        go_simp
        try with_reducible rfl
      simp only [Act.put, List.setIfInBounds_toArray, List.set_cons_zero, List.set_cons_succ]
      refine seq_at (some 95) (v := ?_) rfl (by kernel_rfl) (by kernel_rfl) ?_ ?_
      rotate_left
      · intro w' hw'
        obtain ⟨⟨⟨⟨⟨⟨⟨⟨⟨⟨⟨q0, q1, q2, q3⟩, k1⟩, k2⟩, k3⟩, k4⟩, k5⟩, k6⟩, k7⟩, k8⟩, k9⟩, k10⟩ := U w' hw'
        go_simp
        try with_reducible rfl
      simp only [Act.put, List.setIfInBounds_toArray, List.set_cons_zero, List.set_cons_succ]
      refine seq_at (some 96) (v := ?_) rfl (by kernel_rfl) (by kernel_rfl) ?_ ?_
      rotate_left
      · intro w' hw'
        obtain ⟨⟨⟨⟨⟨⟨⟨⟨⟨⟨⟨q0, q1, q2, q3⟩, k1⟩, k2⟩, k3⟩, k4⟩, k5⟩, k6⟩, k7⟩, k8⟩, k9⟩, k10⟩ := U w' hw'
        go_simp
        try with_reducible rfl
      simp only [Act.put, List.setIfInBounds_toArray, List.set_cons_zero, List.set_cons_succ]
      refine seq_nil ?_
      replace U := U.map (F := _) (fun u hu => hu.1.1.1.1.1.1.1.1.1.1)
      go_wp2_with fail
      have HB9 := Lib.hid (Bl.step HB8.out HX6.out)
      have HO9 := Lib.hid (own_below HO8.out HX6.out)
      have HOa9 := Lib.hid (own_below HOa8.out HX6.out)
      have HOb9 := Lib.hid (own_below HOb8.out HX6.out)
      have HOn9 := Lib.hid (own_below HOn8.out HX6.out)
      have HOm9 := Lib.hid (own_below HOm8.out HX6.out)
      have HOl9 := Lib.hid (own_below HOl8.out HX6.out)
      have HOj9 := Lib.hid (own_below HOj8.out HX6.out)
      have z0 := Lib.hid (U.at)
      have hlb : (encB l).length ≤ 1048700 := by
        have := enc_len (n := l.length) (by unfold U64; omega)
        unfold encB
        rw [List.length_append]
        omega
      have hln := enc_len hn
      clear U HB8 HO8 HOa8 HOb8 HOn8 HOm8 HOl8 HOj8 HX6 HA8
      refine (spoil_any (.slice (some ⟨ga, 0, none⟩) (encB l).length ca) (encB l) _ _ HOa9.out (by omega) (by have := (HOa9.out.lt ga rfl); omega)).mono ?_
      rintro e y1 ⟨rfl, hg⟩
      replace hg : World.grownBy _ y1 (some ga) := hg
      have HB10 := Lib.hid (Bl.grown HB9.out hg (fun k hk => by have := Option.some.inj hk; omega))
      have z1 := cells_kept hg z0 (by omega)
      have HO10 := Lib.hid (kept_of HO9.out hg (fun k hk => by have e : g0 = k := Option.some.inj hk; omega))
      have HOb10 := Lib.hid (kept_of HOb9.out hg (fun k hk => by have e : gb = k := Option.some.inj hk; omega))
      have HOn10 := Lib.hid (kept_of HOn9.out hg (fun k hk => by have e : gn = k := Option.some.inj hk; omega))
      have HOm10 := Lib.hid (kept_of HOm9.out hg (fun k hk => by have e : gm = k := Option.some.inj hk; omega))
      have HOl10 := Lib.hid (kept_of HOl9.out hg (fun k hk => by have := Hul.out k hk; omega))
      have HOj10 := Lib.hid (kept_of HOj9.out hg (fun k hk => by have e : gj = k := Option.some.inj hk; omega))
      clear hg HB9 HOa9 HO9 HOb9 HOn9 HOm9 HOl9 HOj9 z0
      go_wp2_with fail
      refine (spoil_any (.slice (some ⟨gn, 0, none⟩) (enc n).length cn) (enc n) _ _ HOn10.out (by omega) (by have := (HOn10.out.lt gn rfl); omega)).mono ?_
      rintro e y2 ⟨rfl, hg⟩
      replace hg : World.grownBy _ y2 (some gn) := hg
      have HB11 := Lib.hid (Bl.grown HB10.out hg (fun k hk => by have := Option.some.inj hk; omega))
      have z2 := cells_kept hg z1 (by omega)
      have HO11 := Lib.hid (kept_of HO10.out hg (fun k hk => by have e : g0 = k := Option.some.inj hk; omega))
      have HOb11 := Lib.hid (kept_of HOb10.out hg (fun k hk => by have e : gb = k := Option.some.inj hk; omega))
      have HOm11 := Lib.hid (kept_of HOm10.out hg (fun k hk => by have e : gm = k := Option.some.inj hk; omega))
      have HOl11 := Lib.hid (kept_of HOl10.out hg (fun k hk => by have := Hul.out k hk; omega))
      have HOj11 := Lib.hid (kept_of HOj10.out hg (fun k hk => by have e : gj = k := Option.some.inj hk; omega))
      clear hg HB10 HOn10 HO10 HOb10 HOm10 HOl10 HOj10 z1
      go_wp2_with fail
      refine (spoil_any (.slice (some ⟨gj, 0, none⟩) (F).length cj) (F) _ _ HOj11.out (by omega) (by have := (HOj11.out.lt gj rfl); omega)).mono ?_
      rintro e y3 ⟨rfl, hg⟩
      replace hg : World.grownBy _ y3 (some gj) := hg
      have HB12 := Lib.hid (Bl.grown HB11.out hg (fun k hk => by have := Option.some.inj hk; omega))
      have z3 := cells_kept hg z2 (by omega)
      have HO12 := Lib.hid (kept_of HO11.out hg (fun k hk => by have e : g0 = k := Option.some.inj hk; omega))
      have HOb12 := Lib.hid (kept_of HOb11.out hg (fun k hk => by have e : gb = k := Option.some.inj hk; omega))
      have HOm12 := Lib.hid (kept_of HOm11.out hg (fun k hk => by have e : gm = k := Option.some.inj hk; omega))
      have HOl12 := Lib.hid (kept_of HOl11.out hg (fun k hk => by have := Hul.out k hk; omega))
      clear hg HB11 HOj11 HO11 HOb11 HOm11 HOl11 z2
      go_wp2_with fail
      go_loopg [13, 14] L.length (fun k i kk wr2 => ∃ j n0 : Nat, i = .int .i64 (j : Int) ∧ kk = .int .i64 (tot L j : Int) ∧ Hid (j + k = L.length) ∧ wr2 = y3.drewN n0)
      case atStart => exact ⟨0, 0, rfl, rfl, Nat.zero_add _, rfl⟩
      case round =>
        obtain ⟨j, n0, rfl, rfl, hj, rfl⟩ := hrel
        by_cases hlt : j < L.length
        · obtain ⟨ad, Ai, ci, rfl, hcell, hci, hAi⟩ := (hA2.mono (Bl.drewN HB12.out n0)).get j hlt
          go_wp2_with fail
          have hAl : At (y3.drewN n0) Al (bv F) := At.mono (own_at HOl12.out) (Bl.drewN (Below.refl _ _) n0)
          have t1 := tot_succ L j hlt
          have t2 : tot L (j + 1) ≤ F.length := by rw [HF.out]; exact tot_le L (j + 1)
          have hw : IntKind.i64.wrap ((tot L j : Int) + ((L[j]).length : Int)) = ((tot L (j + 1) : Nat) : Int) := (IntWalk.i64_in _ (by omega)).trans (by omega)
          have hp : (F.take (tot L (j + 1))).drop (tot L j) = L[j] := by rw [HF.out]; exact cut_piece L j hlt
          rcases Al with _ | al
          · have hF0 : F = [] := by
              rcases F with _ | ⟨b0, r⟩
              · rfl
              · obtain ⟨ad', e, _⟩ := hAl 0 _ rfl
                cases e
            have hcl0 : cl = 0 := by
              rcases HOl12.out.2 with ⟨e, _⟩ | ⟨g, cap, cur, e, _⟩
              · injection e
              · injection e with e
                cases e
            have e0 : tot L j = 0 := by rw [hF0] at t2; simp at t2; omega
            have e1 : tot L (j + 1) = 0 := by rw [hF0] at t2; simp at t2; omega
            have hl0 : (L[j]).length = 0 := by omega
            have hLj : L[j] = [] := List.eq_nil_of_length_eq_zero hl0
            rw [hl0] at hcell
            rw [hLj] at hAi
            have V : Up (fun _ => False) (y3.drewN n0).drew (fun u => u.cell? (ad.add j) = some (.slice Ai 0 ci) ∧ (convert 23 9 (.slice Ai 0 ci)).run Try.prog u = .ok (.string ⟨#[]⟩) u ∧
                (convert 23 9 (.slice none 0 0)).run Try.prog u = .ok (.string ⟨#[]⟩) u) :=
              ((Up.cell hcell (fun h => h)).and (((Up.bytes hAi (fun _ _ h => h)).map (fun _ hu => run_conv hu)).and
                (fun u _ => run_conv (l := []) (At.nil u none)))).later (Ex.drewN (fun _ => False) _ 1)
            replace hl0 := Lib.hid hl0
            replace e1 := Lib.hid e1
            subst hcl0
            subst hF0
            rw [e0, List.length_nil]
            clear hcell hAi hAl hp hw t1 t2 e0 hLj
            have hz0 : IntKind.i64.wrap 0 = 0 := rfl
            refine wp_region_seq (fun _ => False) [] [(0, true), (1, true), (2, true), (3, true), (4, true), (5, true), (6, true), (7, true), (8, true), (9, true), (10, true), (11, true), (12, true), (13, true), (14, true), (15, true), (16, true)] (by kernel_rfl) (by kernel_rfl) (fun _ _ d _ _ h => by cases d <;> exact h) rfl (by kernel_rfl) ?_
            refine seq_at (some 109) (v := ?_) rfl (by kernel_rfl) (by kernel_rfl) ?_ ?_
            rotate_left
            · intro w' hw'
              obtain ⟨q0, q1, q2⟩ := V w' hw'
              go_simp
              try with_reducible rfl
            simp only [Act.put, List.setIfInBounds_toArray, List.set_cons_zero, List.set_cons_succ]
            refine seq_at (some 110) (v := ?_) rfl (by kernel_rfl) (by kernel_rfl) ?_ ?_
            rotate_left
            · intro w' hw'
              obtain ⟨q0, q1, q2⟩ := V w' hw'
              go_simp
              try with_reducible rfl
            simp only [Act.put, List.setIfInBounds_toArray, List.set_cons_zero, List.set_cons_succ]
            refine seq_at (some 111) (v := ?_) rfl (by kernel_rfl) (by kernel_rfl) ?_ ?_
            rotate_left
            · intro w' hw'
              obtain ⟨q0, q1, q2⟩ := V w' hw'
              go_simp
              try with_reducible rfl
            simp only [Act.put, List.setIfInBounds_toArray, List.set_cons_zero, List.set_cons_succ]
            refine seq_at (some 112) (v := ?_) rfl (by kernel_rfl) (by kernel_rfl) ?_ ?_
            rotate_left
            · intro w' hw'
              obtain ⟨q0, q1, q2⟩ := V w' hw'
              go_simp
              try with_reducible rfl
            simp only [Act.put, List.setIfInBounds_toArray, List.set_cons_zero, List.set_cons_succ]
            refine seq_at (some 113) (v := ?_) rfl (by kernel_rfl) (by kernel_rfl) ?_ ?_
            rotate_left
            · intro w' hw'
              obtain ⟨q0, q1, q2⟩ := V w' hw'
              go_simp
              try with_reducible rfl
            simp only [Act.put, List.setIfInBounds_toArray, List.set_cons_zero, List.set_cons_succ]
            refine seq_at (some 114) (v := ?_) rfl (by kernel_rfl) (by kernel_rfl) ?_ ?_
            rotate_left
            · intro w' hw'
              obtain ⟨q0, q1, q2⟩ := V w' hw'
              go_simp
              try with_reducible rfl
            simp only [Act.put, List.setIfInBounds_toArray, List.set_cons_zero, List.set_cons_succ]
            refine seq_at (some 115) (v := ?_) rfl (by kernel_rfl) (by kernel_rfl) ?_ ?_
            rotate_left
            · intro w' hw'
              obtain ⟨q0, q1, q2⟩ := V w' hw'
              go_simp
              try with_reducible rfl
            simp only [Act.put, List.setIfInBounds_toArray, List.set_cons_zero, List.set_cons_succ]
            refine seq_at (some 116) (v := ?_) rfl (by kernel_rfl) (by kernel_rfl) ?_ ?_
            rotate_left
            · intro w' hw'
              obtain ⟨q0, q1, q2⟩ := V w' hw'
              go_simp
              try with_reducible rfl
            simp only [Act.put, List.setIfInBounds_toArray, List.set_cons_zero, List.set_cons_succ]
            refine seq_at (some 117) (v := ?_) rfl (by kernel_rfl) (by kernel_rfl) ?_ ?_
            rotate_left
            · intro w' hw'
              obtain ⟨q0, q1, q2⟩ := V w' hw'
              go_simp
              try with_reducible rfl
            simp only [Act.put, List.setIfInBounds_toArray, List.set_cons_zero, List.set_cons_succ]
            refine seq_at (some 118) (v := ?_) rfl (by kernel_rfl) (by kernel_rfl) ?_ ?_
            rotate_left
            · intro w' hw'
              obtain ⟨q0, q1, q2⟩ := V w' hw'
              go_simp
              try with_reducible rfl
            simp only [Act.put, List.setIfInBounds_toArray, List.set_cons_zero, List.set_cons_succ]
            refine seq_at (some 119) (v := ?_) rfl (by kernel_rfl) (by kernel_rfl) ?_ ?_
            rotate_left
            · intro w' hw'
              obtain ⟨q0, q1, q2⟩ := V w' hw'
              go_simp
              try with_reducible rfl
            simp only [Act.put, List.setIfInBounds_toArray, List.set_cons_zero, List.set_cons_succ]
            refine seq_at (some 120) (v := ?_) rfl (by kernel_rfl) (by kernel_rfl) ?_ ?_
            rotate_left
            · intro w' hw'
              obtain ⟨q0, q1, q2⟩ := V w' hw'
              go_simp
              try with_reducible rfl
            simp only [Act.put, List.setIfInBounds_toArray, List.set_cons_zero, List.set_cons_succ]
            refine seq_at (some 121) (v := ?_) rfl (by kernel_rfl) (by kernel_rfl) ?_ ?_
            rotate_left
            · intro w' hw'
              obtain ⟨q0, q1, q2⟩ := V w' hw'
              go_simp
              try with_reducible rfl
            simp only [Act.put, List.setIfInBounds_toArray, List.set_cons_zero, List.set_cons_succ]
            refine seq_at (some 122) (v := ?_) rfl (by kernel_rfl) (by kernel_rfl) ?_ ?_
            rotate_left
            · intro w' hw'
              obtain ⟨q0, q1, q2⟩ := V w' hw'
              go_simp
              try with_reducible rfl
            simp only [Act.put, List.setIfInBounds_toArray, List.set_cons_zero, List.set_cons_succ]
            refine seq_at (some 123) (v := ?_) rfl (by kernel_rfl) (by kernel_rfl) ?_ ?_
            rotate_left
            · intro w' hw'
              obtain ⟨q0, q1, q2⟩ := V w' hw'
              go_simp
              try with_reducible rfl
            simp only [Act.put, List.setIfInBounds_toArray, List.set_cons_zero, List.set_cons_succ]
            refine seq_at (some 124) (v := ?_) rfl (by kernel_rfl) (by kernel_rfl) ?_ ?_
            rotate_left
            · intro w' hw'
              obtain ⟨q0, q1, q2⟩ := V w' hw'
              go_simp
              try with_reducible rfl
            simp only [Act.put, List.setIfInBounds_toArray, List.set_cons_zero, List.set_cons_succ]
            refine seq_at (some 125) (v := ?_) rfl (by kernel_rfl) (by kernel_rfl) ?_ ?_
            rotate_left
            · intro w' hw'
              obtain ⟨q0, q1, q2⟩ := V w' hw'
              go_simp
              try with_reducible rfl
            simp only [Act.put, List.setIfInBounds_toArray, List.set_cons_zero, List.set_cons_succ]
            refine seq_nil ?_
            have p0 := V.at.1
            have p1 : y3.cell? (ad.add j) = some (.slice Ai 0 ci) := V.at.1
            have p2 : (y3.drewN (n0 + 1)).cell? (ad.add j) = some (.slice Ai 0 ci) := V.at.1
            clear V
            go_wp2_with fail
            go_roundg (gk - 1)
            case measure => have := hj.out; omega
            case rel => exact ⟨j + 1, n0 + 1, (by go_num), (by rw [e1.out]; rfl), (by have := hj.out; show _ = _; omega), rfl⟩
          · have V : Up (fun _ => False) (y3.drewN n0).drew (fun u => u.cell? (ad.add j) = some (.slice Ai (L[j]).length ci) ∧ (convert 23 9 (.slice Ai (L[j]).length ci)).run Try.prog u = .ok (.string ⟨(L[j]).toArray⟩) u ∧
                (convert 23 9 (.slice (if cl = tot L j then some al else some (al.add (tot L j))) (tot L (j + 1) - tot L j) (cl - tot L j))).run Try.prog u = .ok (.string ⟨(L[j]).toArray⟩) u) :=
              ((Up.cell hcell (fun h => h)).and (((Up.bytes hAi (fun _ _ h => h)).map (fun _ hu => run_conv hu)).and
                ((Up.bytes hAl (fun _ _ h => h)).map (fun _ hu => by have := cut_conv hu (tot L j) (tot L (j + 1)) (by omega) t2 hcl (cl - tot L j); rwa [hp] at this)))).later (Ex.drewN (fun _ => False) _ 1)
            have b1 : tot L j ≤ tot L (j + 1) := by omega
            have b2 : tot L (j + 1) ≤ cl := by omega
            replace t1 := Lib.hid t1
            clear hcell hAi hAl hp
            refine wp_region_seq (fun _ => False) [] [(0, true), (1, true), (2, true), (3, true), (4, true), (5, true), (6, true), (7, true), (8, true), (9, true), (10, true), (11, true), (12, true), (13, true), (14, true), (15, true), (16, true)] (by kernel_rfl) (by kernel_rfl) (fun _ _ d _ _ h => by cases d <;> exact h) rfl (by kernel_rfl) ?_
            refine seq_at (some 109) (v := ?_) rfl (by kernel_rfl) (by kernel_rfl) ?_ ?_
            rotate_left
            · intro w' hw'
              obtain ⟨q0, q1, q2⟩ := V w' hw'
              go_simp
              try with_reducible rfl
            simp only [Act.put, List.setIfInBounds_toArray, List.set_cons_zero, List.set_cons_succ]
            refine seq_at (some 110) (v := ?_) rfl (by kernel_rfl) (by kernel_rfl) ?_ ?_
            rotate_left
            · intro w' hw'
              obtain ⟨q0, q1, q2⟩ := V w' hw'
              go_simp
              try with_reducible rfl
            simp only [Act.put, List.setIfInBounds_toArray, List.set_cons_zero, List.set_cons_succ]
            refine seq_at (some 111) (v := ?_) rfl (by kernel_rfl) (by kernel_rfl) ?_ ?_
            rotate_left
            · intro w' hw'
              obtain ⟨q0, q1, q2⟩ := V w' hw'
              go_simp
              try with_reducible rfl
            simp only [Act.put, List.setIfInBounds_toArray, List.set_cons_zero, List.set_cons_succ]
            refine seq_at (some 112) (v := ?_) rfl (by kernel_rfl) (by kernel_rfl) ?_ ?_
            rotate_left
            · intro w' hw'
              obtain ⟨q0, q1, q2⟩ := V w' hw'
              go_simp
              try with_reducible rfl
            simp only [Act.put, List.setIfInBounds_toArray, List.set_cons_zero, List.set_cons_succ]
            refine seq_at (some 113) (v := ?_) rfl (by kernel_rfl) (by kernel_rfl) ?_ ?_
            rotate_left
            · intro w' hw'
              obtain ⟨q0, q1, q2⟩ := V w' hw'
              go_simp
              try with_reducible rfl
            simp only [Act.put, List.setIfInBounds_toArray, List.set_cons_zero, List.set_cons_succ]
            refine seq_at (some 114) (v := ?_) rfl (by kernel_rfl) (by kernel_rfl) ?_ ?_
            rotate_left
            · intro w' hw'
              obtain ⟨q0, q1, q2⟩ := V w' hw'
              go_simp
              try with_reducible rfl
            simp only [Act.put, List.setIfInBounds_toArray, List.set_cons_zero, List.set_cons_succ]
            refine seq_at (some 115) (v := ?_) rfl (by kernel_rfl) (by kernel_rfl) ?_ ?_
            rotate_left
            · intro w' hw'
              obtain ⟨q0, q1, q2⟩ := V w' hw'
              go_simp
              try with_reducible rfl
            simp only [Act.put, List.setIfInBounds_toArray, List.set_cons_zero, List.set_cons_succ]
            refine seq_at (some 116) (v := ?_) rfl (by kernel_rfl) (by kernel_rfl) ?_ ?_
            rotate_left
            · intro w' hw'
              obtain ⟨q0, q1, q2⟩ := V w' hw'
              go_simp
              try with_reducible rfl
            simp only [Act.put, List.setIfInBounds_toArray, List.set_cons_zero, List.set_cons_succ]
            refine seq_at (some 117) (v := ?_) rfl (by kernel_rfl) (by kernel_rfl) ?_ ?_
            rotate_left
            · intro w' hw'
              obtain ⟨q0, q1, q2⟩ := V w' hw'
              go_simp
              try with_reducible rfl
            simp only [Act.put, List.setIfInBounds_toArray, List.set_cons_zero, List.set_cons_succ]
            refine seq_at (some 118) (v := ?_) rfl (by kernel_rfl) (by kernel_rfl) ?_ ?_
            rotate_left
            · intro w' hw'
              obtain ⟨q0, q1, q2⟩ := V w' hw'
              go_simp
              try with_reducible rfl
            simp only [Act.put, List.setIfInBounds_toArray, List.set_cons_zero, List.set_cons_succ]
            refine seq_at (some 119) (v := ?_) rfl (by kernel_rfl) (by kernel_rfl) ?_ ?_
            rotate_left
            · intro w' hw'
              obtain ⟨q0, q1, q2⟩ := V w' hw'
              go_simp
              try with_reducible rfl
            simp only [Act.put, List.setIfInBounds_toArray, List.set_cons_zero, List.set_cons_succ]
            refine seq_at (some 120) (v := ?_) rfl (by kernel_rfl) (by kernel_rfl) ?_ ?_
            rotate_left
            · intro w' hw'
              obtain ⟨q0, q1, q2⟩ := V w' hw'
              go_simp
              try with_reducible rfl
            simp only [Act.put, List.setIfInBounds_toArray, List.set_cons_zero, List.set_cons_succ]
            refine seq_at (some 121) (v := ?_) rfl (by kernel_rfl) (by kernel_rfl) ?_ ?_
            rotate_left
            · intro w' hw'
              obtain ⟨q0, q1, q2⟩ := V w' hw'
              go_simp
              try with_reducible rfl
            simp only [Act.put, List.setIfInBounds_toArray, List.set_cons_zero, List.set_cons_succ]
            refine seq_at (some 122) (v := ?_) rfl (by kernel_rfl) (by kernel_rfl) ?_ ?_
            rotate_left
            · intro w' hw'
              obtain ⟨q0, q1, q2⟩ := V w' hw'
              go_simp
              try with_reducible rfl
            simp only [Act.put, List.setIfInBounds_toArray, List.set_cons_zero, List.set_cons_succ]
            refine seq_at (some 123) (v := ?_) rfl (by kernel_rfl) (by kernel_rfl) ?_ ?_
            rotate_left
            · intro w' hw'
              obtain ⟨q0, q1, q2⟩ := V w' hw'
              go_simp
              try with_reducible rfl
            simp only [Act.put, List.setIfInBounds_toArray, List.set_cons_zero, List.set_cons_succ]
            refine seq_at (some 124) (v := ?_) rfl (by kernel_rfl) (by kernel_rfl) ?_ ?_
            rotate_left
            · intro w' hw'
              obtain ⟨q0, q1, q2⟩ := V w' hw'
              go_simp
              try with_reducible rfl
            simp only [Act.put, List.setIfInBounds_toArray, List.set_cons_zero, List.set_cons_succ]
            refine seq_at (some 125) (v := ?_) rfl (by kernel_rfl) (by kernel_rfl) ?_ ?_
            rotate_left
            · intro w' hw'
              obtain ⟨q0, q1, q2⟩ := V w' hw'
              go_simp
              try with_reducible rfl
            simp only [Act.put, List.setIfInBounds_toArray, List.set_cons_zero, List.set_cons_succ]
            refine seq_nil ?_
            have p0 := V.at.1
            have p1 : y3.cell? (ad.add j) = some (.slice Ai (L[j]).length ci) := V.at.1
            have p2 : (y3.drewN (n0 + 1)).cell? (ad.add j) = some (.slice Ai (L[j]).length ci) := V.at.1
            clear V
            generalize (if cl = tot L j then some al else some (al.add (tot L j))) = AA
            go_wp2_with fail
            go_roundg (gk - 1)
            case measure => have := hj.out; omega
            case rel => exact ⟨j + 1, n0 + 1, (by go_num), (by rw [t1.out]), (by have := hj.out; show _ = _; omega), rfl⟩
        · have U : Up (fun _ => False) (y3.drewN n0).drew (fun u => (u.cell? ⟨w.heap.size, 0, none⟩ = some (.int .u64 (n : Int)) ∧ u.cell? ⟨w.heap.size, 1, none⟩ = some (.int .i64 s) ∧ u.cell? ⟨w.heap.size, 2, none⟩ = some (.bool f) ∧ u.cell? ⟨w.heap.size, 3, none⟩ = some (.slice A l.length c))) :=
            ((Up.cell z3.out.1 id).and ((Up.cell z3.out.2.1 id).and ((Up.cell z3.out.2.2.1 id).and (Up.cell z3.out.2.2.2 id)))).later (Ex.drewN (fun _ => False) _ (n0 + 1))
          have hAz := hA.mono HB12.out
          have V := (((Up.conv HOb12.out).and (Up.conv HOm12.out)).and (Up.convAt (l := l ++ [119]) (own_at HO12.out) c0)).and (Up.convAt hAz c)
          rw [show (l ++ [(119 : UInt8)]).length = l.length + 1 by simp] at V
          replace U := U.and (V.later (Ex.drewN (fun _ => False) _ (n0 + 1)))
          have hbig : ¬ 9223372036854775807 < l.length + 1 := by omega
          have hcat : (⟨l.toArray⟩ : ByteArray) ++ ⟨#[119]⟩ = ⟨(l ++ [119]).toArray⟩ := by
            apply ByteArray.ext
            simp
          have HBz := Lib.hid (Bl.drewN HB12.out (n0 + 1))
          have HAz : Hid (At (y3.drewN (n0 + 1)) A (bv l)) := hA.mono HBz.out
          clear V hAz z3 HB12 HO12 HOb12 HOm12 HOl12
          go_wp2_with fail
          refine wp_region_seq (fun _ => False) [] [(0, true), (1, true), (2, true), (3, true), (4, false), (5, true), (6, true), (7, true), (8, true), (9, true), (10, true), (11, true), (12, false), (13, true), (14, true), (15, true), (16, true), (17, true), (18, true), (19, true), (20, true), (21, true), (22, true), (23, true), (24, true), (25, true), (26, false), (27, true), (28, true)] (by kernel_rfl) (by kernel_rfl) (fun _ _ d _ _ h => by cases d <;> exact h) rfl (by kernel_rfl) ?_
          refine seq_at (some 133) (v := ?_) rfl (by kernel_rfl) (by kernel_rfl) ?_ ?_
          rotate_left
          · intro w' hw'
            obtain ⟨⟨q0, q1, q2, q3⟩, ⟨⟨k1, k2⟩, k3⟩, k4⟩ := U w' hw'
            go_simp
            try with_reducible rfl
          simp only [Act.put, List.setIfInBounds_toArray, List.set_cons_zero, List.set_cons_succ]
          refine seq_at (some 134) (v := ?_) rfl (by kernel_rfl) (by kernel_rfl) ?_ ?_
          rotate_left
          · intro w' hw'
            obtain ⟨⟨q0, q1, q2, q3⟩, ⟨⟨k1, k2⟩, k3⟩, k4⟩ := U w' hw'
            go_simp
            try with_reducible rfl
          simp only [Act.put, List.setIfInBounds_toArray, List.set_cons_zero, List.set_cons_succ]
          refine seq_at (some 135) (v := ?_) rfl (by kernel_rfl) (by kernel_rfl) ?_ ?_
          rotate_left
          · intro w' hw'
            obtain ⟨⟨q0, q1, q2, q3⟩, ⟨⟨k1, k2⟩, k3⟩, k4⟩ := U w' hw'
            go_simp
            try with_reducible rfl
          simp only [Act.put, List.setIfInBounds_toArray, List.set_cons_zero, List.set_cons_succ]
          refine seq_at (some 136) (v := ?_) rfl (by kernel_rfl) (by kernel_rfl) ?_ ?_
          rotate_left
          · intro w' hw'
            obtain ⟨⟨q0, q1, q2, q3⟩, ⟨⟨k1, k2⟩, k3⟩, k4⟩ := U w' hw'
            go_simp
            try with_reducible rfl
          simp only [Act.put, List.setIfInBounds_toArray, List.set_cons_zero, List.set_cons_succ]
          refine seq_eff rfl (by kernel_rfl) (fun K hK => ?_)
          go_simp
          refine (refBytes_any A c l _ HAz.out (by omega)).mono ?_
          rintro e x1 ⟨h1, d1, rfl, ho, hb⟩
          refine hK.out _ _ (.inl (Ex.below hb)) ?_
          try simp only [Act.put, List.setIfInBounds_toArray, List.set_cons_zero, List.set_cons_succ]
          clear hK
          have HX1 := Lib.hid (Bl.step HBz.out hb)
          replace U := (U.later (Ex.below hb)).and (Up.conv ho)
          clear ho hb HBz HAz
          refine seq_at (some 138) (v := ?_) rfl (by kernel_rfl) (by kernel_rfl) ?_ ?_
          rotate_left
          · intro w' hw'
            obtain ⟨⟨⟨q0, q1, q2, q3⟩, ⟨⟨k1, k2⟩, k3⟩, k4⟩, k5⟩ := U w' hw'
            go_simp
            try with_reducible rfl
          simp only [Act.put, List.setIfInBounds_toArray, List.set_cons_zero, List.set_cons_succ]
          refine seq_at (some 139) (v := ?_) rfl (by kernel_rfl) (by kernel_rfl) ?_ ?_
          rotate_left
          · intro w' hw'
            obtain ⟨⟨⟨q0, q1, q2, q3⟩, ⟨⟨k1, k2⟩, k3⟩, k4⟩, k5⟩ := U w' hw'
            go_simp
            try with_reducible rfl
          simp only [Act.put, List.setIfInBounds_toArray, List.set_cons_zero, List.set_cons_succ]
          refine seq_at (some 140) (v := ?_) rfl (by kernel_rfl) (by kernel_rfl) ?_ ?_
          rotate_left
          · intro w' hw'
            obtain ⟨⟨⟨q0, q1, q2, q3⟩, ⟨⟨k1, k2⟩, k3⟩, k4⟩, k5⟩ := U w' hw'
            go_simp
            try with_reducible rfl
          simp only [Act.put, List.setIfInBounds_toArray, List.set_cons_zero, List.set_cons_succ]
          refine seq_at (some 141) (v := ?_) rfl (by kernel_rfl) (by kernel_rfl) ?_ ?_
          rotate_left
          · intro w' hw'
            obtain ⟨⟨⟨q0, q1, q2, q3⟩, ⟨⟨k1, k2⟩, k3⟩, k4⟩, k5⟩ := U w' hw'
            go_simp
            try with_reducible rfl
          simp only [Act.put, List.setIfInBounds_toArray, List.set_cons_zero, List.set_cons_succ]
          refine seq_at (some 142) (v := ?_) rfl (by kernel_rfl) (by kernel_rfl) ?_ ?_
          rotate_left
          · intro w' hw'
            obtain ⟨⟨⟨q0, q1, q2, q3⟩, ⟨⟨k1, k2⟩, k3⟩, k4⟩, k5⟩ := U w' hw'
            go_simp
            try with_reducible rfl
          simp only [Act.put, List.setIfInBounds_toArray, List.set_cons_zero, List.set_cons_succ]
          refine seq_at (some 143) (v := ?_) rfl (by kernel_rfl) (by kernel_rfl) ?_ ?_
          rotate_left
          · intro w' hw'
            obtain ⟨⟨⟨q0, q1, q2, q3⟩, ⟨⟨k1, k2⟩, k3⟩, k4⟩, k5⟩ := U w' hw'
            go_simp
            try with_reducible rfl
          simp only [Act.put, List.setIfInBounds_toArray, List.set_cons_zero, List.set_cons_succ]
          refine seq_at (some 144) (v := ?_) rfl (by kernel_rfl) (by kernel_rfl) ?_ ?_
          rotate_left
          · intro w' hw'
            obtain ⟨⟨⟨q0, q1, q2, q3⟩, ⟨⟨k1, k2⟩, k3⟩, k4⟩, k5⟩ := U w' hw'
            go_simp
            try with_reducible rfl
          simp only [Act.put, List.setIfInBounds_toArray, List.set_cons_zero, List.set_cons_succ]
          refine seq_eff rfl (by kernel_rfl) (fun K hK => ?_)
          go_simp
          refine (refNumber_any n hn _).mono ?_
          rintro e x2 ⟨h2, d2, rfl, ho, hb⟩
          refine hK.out _ _ (.inl (Ex.below hb)) ?_
          try simp only [Act.put, List.setIfInBounds_toArray, List.set_cons_zero, List.set_cons_succ]
          clear hK
          have HX2 := Lib.hid (Bl.step HX1.out hb)
          replace U := (U.later (Ex.below hb)).and (Up.conv ho)
          clear ho hb HX1
          refine seq_at (some 146) (v := ?_) rfl (by kernel_rfl) (by kernel_rfl) ?_ ?_
          rotate_left
          · intro w' hw'
            obtain ⟨⟨⟨⟨q0, q1, q2, q3⟩, ⟨⟨k1, k2⟩, k3⟩, k4⟩, k5⟩, k6⟩ := U w' hw'
            go_simp
            try with_reducible rfl
          simp only [Act.put, List.setIfInBounds_toArray, List.set_cons_zero, List.set_cons_succ]
          refine seq_at (some 147) (v := ?_) rfl (by kernel_rfl) (by kernel_rfl) ?_ ?_
          rotate_left
          · intro w' hw'
            obtain ⟨⟨⟨⟨q0, q1, q2, q3⟩, ⟨⟨k1, k2⟩, k3⟩, k4⟩, k5⟩, k6⟩ := U w' hw'
            go_simp
            try with_reducible rfl
          simp only [Act.put, List.setIfInBounds_toArray, List.set_cons_zero, List.set_cons_succ]
          refine seq_at (some 148) (v := ?_) rfl (by kernel_rfl) (by kernel_rfl) ?_ ?_
          rotate_left
          · intro w' hw'
            obtain ⟨⟨⟨⟨q0, q1, q2, q3⟩, ⟨⟨k1, k2⟩, k3⟩, k4⟩, k5⟩, k6⟩ := U w' hw'
            go_simp
            try with_reducible rfl
          simp only [Act.put, List.setIfInBounds_toArray, List.set_cons_zero, List.set_cons_succ]
          refine seq_at (some 149) (v := ?_) rfl (by kernel_rfl) (by kernel_rfl) ?_ ?_
          rotate_left
          · intro w' hw'
            obtain ⟨⟨⟨⟨q0, q1, q2, q3⟩, ⟨⟨k1, k2⟩, k3⟩, k4⟩, k5⟩, k6⟩ := U w' hw'
            go_simp
            try with_reducible rfl
          simp only [Act.put, List.setIfInBounds_toArray, List.set_cons_zero, List.set_cons_succ]
          refine seq_at (some 150) (v := ?_) rfl (by kernel_rfl) (by kernel_rfl) ?_ ?_
          rotate_left
          · intro w' hw'
            obtain ⟨⟨⟨⟨q0, q1, q2, q3⟩, ⟨⟨k1, k2⟩, k3⟩, k4⟩, k5⟩, k6⟩ := U w' hw'
            go_simp
            try with_reducible rfl
          simp only [Act.put, List.setIfInBounds_toArray, List.set_cons_zero, List.set_cons_succ]
          refine seq_at (some 151) (v := ?_) rfl (by kernel_rfl) (by kernel_rfl) ?_ ?_
          rotate_left
          · intro w' hw'
            obtain ⟨⟨⟨⟨q0, q1, q2, q3⟩, ⟨⟨k1, k2⟩, k3⟩, k4⟩, k5⟩, k6⟩ := U w' hw'
            go_simp
            try with_reducible rfl
          simp only [Act.put, List.setIfInBounds_toArray, List.set_cons_zero, List.set_cons_succ]
          refine seq_at (some 152) (v := ?_) rfl (by kernel_rfl) (by kernel_rfl) ?_ ?_
          rotate_left
          · intro w' hw'
            obtain ⟨⟨⟨⟨q0, q1, q2, q3⟩, ⟨⟨k1, k2⟩, k3⟩, k4⟩, k5⟩, k6⟩ := U w' hw'
            go_simp
            try with_reducible rfl
          simp only [Act.put, List.setIfInBounds_toArray, List.set_cons_zero, List.set_cons_succ]
          refine seq_at (some 153) (v := ?_) rfl (by kernel_rfl) (by kernel_rfl) ?_ ?_
          rotate_left
          · intro w' hw'
            obtain ⟨⟨⟨⟨q0, q1, q2, q3⟩, ⟨⟨k1, k2⟩, k3⟩, k4⟩, k5⟩, k6⟩ := U w' hw'
            go_simp
            try with_reducible rfl
          simp only [Act.put, List.setIfInBounds_toArray, List.set_cons_zero, List.set_cons_succ]
          refine seq_at (some 154) (v := ?_) rfl (by kernel_rfl) (by kernel_rfl) ?_ ?_
          rotate_left
          · intro w' hw'
            obtain ⟨⟨⟨⟨q0, q1, q2, q3⟩, ⟨⟨k1, k2⟩, k3⟩, k4⟩, k5⟩, k6⟩ := U w' hw'
            go_simp
            try with_reducible rfl
          simp only [Act.put, List.setIfInBounds_toArray, List.set_cons_zero, List.set_cons_succ]
          refine seq_at (some 155) (v := ?_) rfl (by kernel_rfl) (by kernel_rfl) ?_ ?_
          rotate_left
          · intro w' hw'
            obtain ⟨⟨⟨⟨q0, q1, q2, q3⟩, ⟨⟨k1, k2⟩, k3⟩, k4⟩, k5⟩, k6⟩ := U w' hw'
            go_simp
            try with_reducible rfl
          simp only [Act.put, List.setIfInBounds_toArray, List.set_cons_zero, List.set_cons_succ]
          refine seq_at (some 156) (v := ?_) rfl (by kernel_rfl) (by kernel_rfl) ?_ ?_
          rotate_left
          · intro w' hw'
            obtain ⟨⟨⟨⟨q0, q1, q2, q3⟩, ⟨⟨k1, k2⟩, k3⟩, k4⟩, k5⟩, k6⟩ := U w' hw'
            go_simp
            try with_reducible rfl
          simp only [Act.put, List.setIfInBounds_toArray, List.set_cons_zero, List.set_cons_succ]
          refine seq_at (some 157) (v := ?_) rfl (by kernel_rfl) (by kernel_rfl) ?_ ?_
          rotate_left
          · intro w' hw'
            obtain ⟨⟨⟨⟨q0, q1, q2, q3⟩, ⟨⟨k1, k2⟩, k3⟩, k4⟩, k5⟩, k6⟩ := U w' hw'
            go_simp
            try with_reducible rfl
          simp only [Act.put, List.setIfInBounds_toArray, List.set_cons_zero, List.set_cons_succ]
          refine seq_at (some 158) (v := ?_) rfl (by kernel_rfl) (by kernel_rfl) ?_ ?_
          rotate_left
          · intro w' hw'
            obtain ⟨⟨⟨⟨q0, q1, q2, q3⟩, ⟨⟨k1, k2⟩, k3⟩, k4⟩, k5⟩, k6⟩ := U w' hw'
            go_simp
            try with_reducible rfl
          simp only [Act.put, List.setIfInBounds_toArray, List.set_cons_zero, List.set_cons_succ]
          refine seq_eff rfl (by kernel_rfl) (fun K hK => ?_)
          go_simp
          refine (known_any _).mono ?_
          rintro e x3 ⟨rfl, hb⟩
          refine hK.out _ _ (.inl (Ex.below hb)) ?_
          try simp only [Act.put, List.setIfInBounds_toArray, List.set_cons_zero, List.set_cons_succ]
          clear hK
          have HX3 := Lib.hid (Bl.step HX2.out hb)
          clear hb HX2 U
          refine seq_at (some 160) (v := ?_) rfl (by kernel_rfl) (by kernel_rfl) ?_ ?_
          rotate_left
          · intro w' hw'
            go_simp
            try with_reducible rfl
          simp only [Act.put, List.setIfInBounds_toArray, List.set_cons_zero, List.set_cons_succ]
          refine seq_at (some 4) (v := ?_) rfl (by kernel_rfl) (by kernel_rfl) ?_ ?_
          rotate_left
          · intro w' hw'
            go_simp
            try with_reducible rfl
          simp only [Act.put, List.setIfInBounds_toArray, List.set_cons_zero, List.set_cons_succ]
          refine seq_nil ?_
          go_wp2_with fail
          go_ret
          exact ⟨rfl, HX3.out⟩
end Go.Proofs.Ytemmdlanidepbaa
