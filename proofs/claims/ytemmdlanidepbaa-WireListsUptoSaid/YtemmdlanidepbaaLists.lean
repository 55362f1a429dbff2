/- The law WireLists's walk. -/
import Derived.Test.YtemmdlanidepbaaPut
import Derived.Test.YtemmdlanidepbaaKnown
import Derived.ChangeKeysEq
namespace Go.Proofs.Ytemmdlanidepbaa
open Go.RowKit
set_option linter.unusedSimpArgs false

theorem pv_pre {w : World} {A : Option Addr} {P Q : List (Nat × Nat)} (h : At w A (pv (P ++ Q))) : At w A (pv P) := fun j u hj => by
  refine h j u ?_
  rw [pv_app, List.getElem?_append_left (List.getElem?_eq_some_iff.1 hj).1]
  exact hj
theorem up_conv {w : World} {base : Nat} {A : Option Addr} {c : Nat} {l : List UInt8} {T : Nat → Prop} (h : w.ownsRow base 5 1 (.slice A l.length c) l.length (bv l)) (hT : ∀ ad, A = some ad → ¬ T ad.block) :
    Up T w (fun u => (convert 23 9 (.slice A l.length c)).run Try.prog u = .ok (.string ⟨l.toArray⟩) u) :=
  (Up.bytes (own_at h) hT).map (fun _ hu => run_conv hu)
theorem last_pair {w : World} {base g c : Nat} {P : List (Nat × Nat)} {a b : Nat} (h : w.ownsRow base 51 2 (.slice (some ⟨g, 0, none⟩) (P ++ [(a, b)]).length c) (P ++ [(a, b)]).length (pv (P ++ [(a, b)]))) :
    w.cell? ⟨g, P.length * 2, none⟩ = some (.int .u64 (a : Int)) ∧ w.cell? ⟨g, P.length * 2 + 1, none⟩ = some (.int .u64 (b : Int)) := by
  obtain ⟨z0, z1⟩ := pv_get (P ++ [(a, b)]) P.length (by simp)
  rw [List.getElem_append_right (Nat.le_refl _)] at z0 z1
  simp only [Nat.sub_self, List.getElem_cons_zero] at z0 z1
  exact ⟨by rw [Nat.mul_comm, ← add0]; exact h.cells (g := g) rfl _ _ z0, by rw [Nat.mul_comm, ← add0]; exact h.cells (g := g) rfl _ _ z1⟩

theorem pair_eq (w : World) (a b : Int) : (Op.equalIn 10000 51 (.agg #[.int .u64 a, .int .u64 b]) (.agg #[.int .u64 a, .int .u64 b])).run Try.prog w = .ok true w := by
  obtain ⟨i, hi⟩ : ∃ i, Try.prog.info? 22 = some i := ⟨_, rfl⟩
  rw [run_equalIn_array w 9999 _ _ Try.underlying51 hi]
  rw [show Try.prog.cellsOf 22 = 1 by kernel_rfl, show List.range 2 = [0, 1] from rfl]
  have p0 : (part 22 #[.int .u64 a, .int .u64 b] (0 * 1)).run Try.prog w = .ok (.int .u64 a) w := by kernel_rfl
  have p1 : (part 22 #[.int .u64 a, .int .u64 b] (1 * 1)).run Try.prog w = .ok (.int .u64 b) w := by kernel_rfl
  simp only [Op.eqItems, Sem.run_bind, p0, p1, Result.andThen_ok, run_equalIn_int w 9998 22 .u64 .u64 _ _ Try.underlying22, beq_self_eq_true, Bool.not_true, Bool.false_eq_true, if_false, Sem.run_pure]
theorem at_take {w : World} {A : Option Addr} {l : List UInt8} (h : At w A (bv l)) (q : Nat) : At w A (bv (l.take q)) := fun j u hj => by
  refine h j u ?_
  simp only [bv, List.getElem?_map, List.getElem?_take] at hj ⊢
  split at hj
  · exact hj
  · cases hj
theorem cut_pairs (w : World) (g n c k : Nat) (h : k ≤ c) : (Instr.slice 50 (.slice (some ⟨g, 0, none⟩) n c) none (some (.int .i64 (k : Int))) none).run Try.prog w = .ok (.slice (some ⟨g, 0, none⟩) k c) w := by
  rw [run_slice_h w 50 _ n c (by kernel_rfl) .i64 (k : Int) (by omega) (by omega)]
  rw [show (sizeOf (Try.prog.elem 50)).run Try.prog w = .ok 2 w by kernel_rfl]
  simp only [Result.andThen, sliced, Int.toNat_natCast, Nat.sub_zero, Nat.zero_mul]
  congr 2
  split <;> rfl

set_option maxRecDepth 100000 in
set_option maxHeartbeats 8000000 in
theorem wireLists_walk (w : World) (A : Option Addr) (c : Nat) (P : List (Nat × Nat)) (hA : At w A (pv P)) (hP : ∀ p ∈ P, U64P p) (hn : P.length ≤ 1048576) (cut : Int) (hcut : I64 cut) :
    Calls Try.prog 5 #[.slice A P.length c, .int .i64 cut] w (fun e w' => e = .returned (.bool true) ∧ Below w.heap.size w w') := by
  have hu : U64 P.length := by unfold U64; omega
  go_enter Try.func5, Try.ntmps5
  obtain ⟨B, hB⟩ : ∃ B, B = encL P := ⟨_, rfl⟩
  have hlB : B.length ≤ 20971530 := by
    rw [hB]
    unfold encL
    rw [List.length_append]
    have := enc_len hu
    have := encs_len P hP
    omega
  have HB := Lib.hid hB
  clear hB
  go_wp2_with (at_builtin; refine stop_at ?_)
  refine Lib.hid ?_
  refine app_rows w rfl _ _ 50 rfl w.heap.size 51 (.agg #[.int .u64 0, .int .u64 0]) 2 16 Try.underlying50 infoPair rfl (by omega) (.slice none 0 0) 0 [] rfl (World.ownsRow_nil _ _ _ _) A P.length c (pv P) rfl (pv_len P) hA (pv_one _) (by simp only [maxLen]; omega) (by omega) (Nat.le_refl _) ?_
  intro v1 w1 ho1 hg1 hv1
  rw [Nat.zero_add, List.nil_append] at ho1
  have hB1 : Below w.heap.size w w1 := Bl.grown (Below.refl _ _) hg1 (fun k hk => by cases hk)
  clear hv1 hg1
  go_wp2_with (at_builtin; refine app_pair rfl _ _ rfl w.heap.size v1 P rfl ho1 (7, 71) rfl (by omega) hB1.size ?_; intro v2 w2 ho2 hg2 hv2)
  have HB2 := Lib.hid (Bl.grown hB1 hg2 (fun k hk => (ho1.lt k hk).1))
  clear hg2 hv2 ho1 hB1
  obtain ⟨g0, c0, rfl⟩ := own_pos ho2 (by simp)
  have hc0 : P.length + 1 ≤ c0 := by
    obtain ⟨_, _, e, hle⟩ := own_form ho2
    injection e with _ _ e
    simp at hle
    omega
  have hlc : P.length ≤ c0 := by omega
  have Hg0 : w.heap.size ≤ g0 ∧ g0 < w2.heap.size := ho2.lt g0 rfl
  have HO2 := Lib.hid ho2
  have HA2 := Lib.hid (hA.mono HB2.out)
  clear ho2
  simp only [List.length_append, List.length_cons, List.length_nil, Nat.zero_add]
  have sl1 := fun u n => cut_pairs u g0 n c0 P.length hlc
  have sl2 := fun u n => cut_pairs u g0 n c0 (P.length + 1) hc0
  rw [show ((P.length + 1 : Nat) : Int) = (P.length : Int) + 1 from rfl] at sl2
  go_wp2_with fail
  rw [sl1]
  go_wp2_with fail
  refine (put_any (some ⟨g0, 0, none⟩) c0 P _ (pv_pre (own_at HO2.out)) hP hn).mono ?_
  rw [← HB.out]
  rintro e w3 ⟨gb, cb, rfl, hob, hb3⟩
  have HO3 := Lib.hid (own_below HO2.out hb3)
  have HB3 := Lib.hid (Bl.step HB2.out hb3)
  have HA3 := Lib.hid (HA2.out.mono hb3)
  have HOb := Lib.hid hob
  have Hgb : g0 < gb ∧ gb < w3.heap.size := ⟨Nat.lt_of_lt_of_le Hg0.2 (hob.lt gb rfl).1, (hob.lt gb rfl).2⟩
  obtain ⟨q0, q1⟩ := last_pair HO3.out
  clear HO2 HB2 HA2 hob hb3
  go_wp2_with fail
  have peq := pair_eq
  refine (num_any _ _).mono ?_
  rintro e w' ⟨rfl, rfl⟩
  go_wp2_with fail
  clear sl1 sl2 q0 q1
  refine (refNumber_any _ hu _).mono ?_
  rintro e w4 ⟨g4, c4, rfl, ho4, hb4⟩
  go_wp2_with fail
  go_loopg [8, 9] P.length (fun k v i wr => ∃ (j : Nat) (l : List UInt8), i = .int .i64 (j : Int) ∧ Hid (j + k = P.length ∧ l = enc P.length ++ encs (P.take j)) ∧ wr.ownsRow w3.heap.size 5 1 v l.length (bv l) ∧ Hid (Below w3.heap.size w3 wr) ∧ v.ownBlock.isSome)
  case atStart => exact ⟨0, enc P.length, rfl, ⟨Nat.zero_add _, by simp [encs]⟩, ho4, hb4, rfl⟩
  case round =>
    clear ho4 hb4
    obtain ⟨j, l, rfl, hj, ho, hb, hs⟩ := hrel
    obtain ⟨vb, vc, rfl⟩ := own_some ho hs
    have HOl := Lib.hid ho
    have Hvb : w3.heap.size ≤ vb := (ho.lt vb rfl).1
    clear ho
    by_cases hlt : j < P.length
    · obtain ⟨⟨a, b⟩, hp⟩ : ∃ p, P[j] = p := ⟨_, rfl⟩
      have hU := hP _ (List.getElem_mem hlt)
      rw [hp] at hU
      obtain ⟨ad, rfl, q0, q1⟩ := pair_at (HA3.out.mono hb.out) hlt hp
      obtain ⟨ad2, e, q2, q3⟩ := pair_at (pv_pre (own_at (own_below HO3.out hb.out))) hlt hp
      injection e with e
      subst e
      have hlt2 : j < P.length + 1 := by omega
      simp only [add0] at q2 q3
      have Had : ¬ (w3.heap.size ≤ ad.block) := by
        obtain ⟨ad', e, z0, _⟩ := pair_at HA3.out hlt hp
        injection e with e
        subst e
        have := World.block_lt_of_cell? w3 _ z0
        rw [add_block] at this
        omega
      go_wp2_with fail
      go_quiet (fail)
      go_wp2_with fail
      have U : Up (fun k => w3.heap.size ≤ k) ((wr.drewN nq).drew) (fun u => u.cell? (ad.add (j * 2)) = some (.int .u64 (a : Int)) ∧ u.cell? { block := (ad.add (j * 2)).block, off := (ad.add (j * 2)).off + 1, spot := none } = some (.int .u64 (b : Int))) :=
        Up.later ((Up.cell q0 (by rw [add_block]; exact Had)).and (Up.cell q1 (by show ¬ (w3.heap.size ≤ (ad.add (j * 2)).block); rw [add_block]; exact Had))) (Ex.drewN _ wr (nq + 1))
      have HL := Lib.hid (own_below HOl.out (Bl.drewN (Below.refl wr.heap.size wr) (nq + 1)))
      have hbq := Lib.hid (Bl.drewN hb.out (nq + 1))
      clear q0 q1 q2 q3 HOl hb
      refine wp_region_seq (fun k => w3.heap.size ≤ k) [] [(0, true), (1, true), (2, true), (3, true), (4, true), (5, true), (8, true), (9, true), (10, true), (11, true), (12, true), (6, false), (7, false), (13, false), (14, false), (15, true)] (by kernel_rfl) (by kernel_rfl) (fun _ _ d _ _ h => by cases d <;> exact h) rfl (by kernel_rfl) ?_
      change Hid ((wr.drewN nq).drew.ownsRow w3.heap.size 5 1 (.slice (some ⟨vb, 0, none⟩) l.length vc) l.length (bv l)) at HL
      change Hid (Below w3.heap.size w3 (wr.drewN nq).drew) at hbq
      generalize (wr.drewN nq).drew = W at *
      have hle : l.length ≤ 20971530 := by
        have h1 := enc_len hu
        have h2 := encs_len (P.take j) (fun p hp => hP p (List.mem_of_mem_take hp))
        rw [List.length_take] at h2
        rw [hj.out.2, List.length_append]
        omega
      have la : (enc a).length ≤ 10 := enc_len hU.1
      have lb : (enc b).length ≤ 10 := enc_len hU.2
      refine seq_at (some 67) (v := ?_) rfl (by kernel_rfl) (by kernel_rfl) ?_ ?_
      rotate_left
      · intro w' hw'
        obtain ⟨q0, q1⟩ := U w' hw'
        go_simp
        try with_reducible rfl
      simp only [Act.put, List.setIfInBounds_toArray, List.set_cons_zero, List.set_cons_succ]
      refine seq_at (some 68) (v := ?_) rfl (by kernel_rfl) (by kernel_rfl) ?_ ?_
      rotate_left
      · intro w' hw'
        obtain ⟨q0, q1⟩ := U w' hw'
        go_simp
        try with_reducible rfl
      simp only [Act.put, List.setIfInBounds_toArray, List.set_cons_zero, List.set_cons_succ]
      refine seq_at (some 69) (v := ?_) rfl (by kernel_rfl) (by kernel_rfl) ?_ ?_
      rotate_left
      · intro w' hw'
        obtain ⟨q0, q1⟩ := U w' hw'
        go_simp
        try with_reducible rfl
      simp only [Act.put, List.setIfInBounds_toArray, List.set_cons_zero, List.set_cons_succ]
      refine seq_at (some 70) (v := ?_) rfl (by kernel_rfl) (by kernel_rfl) ?_ ?_
      rotate_left
      · intro w' hw'
        obtain ⟨q0, q1⟩ := U w' hw'
        go_simp
        try with_reducible rfl
      simp only [Act.put, List.setIfInBounds_toArray, List.set_cons_zero, List.set_cons_succ]
      refine seq_at (some 71) (v := ?_) rfl (by kernel_rfl) (by kernel_rfl) ?_ ?_
      rotate_left
      · intro w' hw'
        obtain ⟨q0, q1⟩ := U w' hw'
        go_simp
        try with_reducible rfl
      simp only [Act.put, List.setIfInBounds_toArray, List.set_cons_zero, List.set_cons_succ]
      refine seq_at (some 72) (v := ?_) rfl (by kernel_rfl) (by kernel_rfl) ?_ ?_
      rotate_left
      · intro w' hw'
        obtain ⟨q0, q1⟩ := U w' hw'
        go_simp
        try with_reducible rfl
      simp only [Act.put, List.setIfInBounds_toArray, List.set_cons_zero, List.set_cons_succ]
      refine seq_at (some 75) (v := ?_) rfl (by kernel_rfl) (by kernel_rfl) ?_ ?_
      rotate_left
      · intro w' hw'
        obtain ⟨q0, q1⟩ := U w' hw'
        go_simp
        try with_reducible rfl
      simp only [Act.put, List.setIfInBounds_toArray, List.set_cons_zero, List.set_cons_succ]
      refine seq_at (some 76) (v := ?_) rfl (by kernel_rfl) (by kernel_rfl) ?_ ?_
      rotate_left
      · intro w' hw'
        obtain ⟨q0, q1⟩ := U w' hw'
        go_simp
        try with_reducible rfl
      simp only [Act.put, List.setIfInBounds_toArray, List.set_cons_zero, List.set_cons_succ]
      refine seq_at (some 77) (v := ?_) rfl (by kernel_rfl) (by kernel_rfl) ?_ ?_
      rotate_left
      · intro w' hw'
        obtain ⟨q0, q1⟩ := U w' hw'
        go_simp
        try with_reducible rfl
      simp only [Act.put, List.setIfInBounds_toArray, List.set_cons_zero, List.set_cons_succ]
      refine seq_at (some 78) (v := ?_) rfl (by kernel_rfl) (by kernel_rfl) ?_ ?_
      rotate_left
      · intro w' hw'
        obtain ⟨q0, q1⟩ := U w' hw'
        go_simp
        try with_reducible rfl
      simp only [Act.put, List.setIfInBounds_toArray, List.set_cons_zero, List.set_cons_succ]
      refine seq_at (some 79) (v := ?_) rfl (by kernel_rfl) (by kernel_rfl) ?_ ?_
      rotate_left
      · intro w' hw'
        obtain ⟨q0, q1⟩ := U w' hw'
        go_simp
        try with_reducible rfl
      simp only [Act.put, List.setIfInBounds_toArray, List.set_cons_zero, List.set_cons_succ]
      refine seq_eff rfl (by kernel_rfl) (fun K hK => ?_)
      go_simp
      refine (refNumber_any a hU.1 _).mono ?_
      rintro e x1 ⟨g5, c5, rfl, ho5, hb5⟩
      refine hK.out _ _ (.inl (Ex.below hb5)) ?_
      try simp only [Act.put, List.setIfInBounds_toArray, List.set_cons_zero, List.set_cons_succ]
      clear hK
      have HL1 := Lib.hid (own_below HL.out hb5)
      have HA5 := Lib.hid (own_at ho5)
      have hB5 := Lib.hid (Bl.step hbq.out hb5)
      clear ho5 hb5 HL hbq U
      refine seq_eff rfl (by kernel_rfl) (fun K hK => ?_)
      refine wp_app_rows _ _ _ 23 rfl w3.heap.size 5 (.int .u8 0) 1 1 Try.underlying23 infoU8 rfl (by omega) (.slice (some ⟨vb, 0, none⟩) l.length vc) l.length (bv l) rfl HL1.out (some ⟨g5, 0, none⟩) (enc a).length c5 (bv (enc a)) rfl (by simp [bv_len]) HA5.out (bv_one _) (by simp only [maxLen]; omega) (by omega) hB5.out.size ?_
      intro v6 x2 ho6 hg6 hv6
      show K (Act.put _ (some 74) v6) x2
      refine hK.out _ _ (.inl (Ex.grown hg6 (fun k hk => by injection hk with hk; subst hk; exact Hvb))) ?_
      try simp only [Act.put, List.setIfInBounds_toArray, List.set_cons_zero, List.set_cons_succ]
      clear hK
      rw [← bv_app, ← List.length_append] at ho6
      obtain ⟨l2, hl2⟩ : ∃ l2, l2 = l ++ enc a := ⟨_, rfl⟩
      rw [← hl2] at ho6
      have hl2n : l2.length ≤ 20971540 := by rw [hl2, List.length_append]; omega
      replace hl2 := Lib.hid hl2
      obtain ⟨vb6, vc6, rfl⟩ := own_some ho6 (isSome_of rfl hv6)
      have HL2 := Lib.hid ho6
      have Hvb6 := (ho6.lt vb6 rfl).1
      have hB6 := Lib.hid (Bl.grown hB5.out hg6 (fun k hk => by injection hk with hk; subst hk; exact Hvb))
      clear ho6 hg6 hv6 hB5 HA5 HL1
      refine seq_eff rfl (by kernel_rfl) (fun K hK => ?_)
      go_simp
      refine (refNumber_any b hU.2 _).mono ?_
      rintro e x3 ⟨g7, c7, rfl, ho7, hb7⟩
      refine hK.out _ _ (.inl (Ex.below hb7)) ?_
      try simp only [Act.put, List.setIfInBounds_toArray, List.set_cons_zero, List.set_cons_succ]
      clear hK
      have HL3 := Lib.hid (own_below HL2.out hb7)
      have HA7 := Lib.hid (own_at ho7)
      have hB7 := Lib.hid (Bl.step hB6.out hb7)
      clear ho7 hb7 HL2 hB6
      refine seq_eff rfl (by kernel_rfl) (fun K hK => ?_)
      refine wp_app_rows _ _ _ 23 rfl w3.heap.size 5 (.int .u8 0) 1 1 Try.underlying23 infoU8 rfl (by omega) (.slice (some ⟨vb6, 0, none⟩) l2.length vc6) l2.length (bv l2) rfl HL3.out (some ⟨g7, 0, none⟩) (enc b).length c7 (bv (enc b)) rfl (by simp [bv_len]) HA7.out (bv_one _) (by simp only [maxLen]; omega) (by omega) hB7.out.size ?_
      intro v8 x4 ho8 hg8 hv8
      show K (Act.put _ (some 81) v8) x4
      refine hK.out _ _ (.inl (Ex.grown hg8 (fun k hk => by injection hk with hk; subst hk; exact Hvb6))) ?_
      try simp only [Act.put, List.setIfInBounds_toArray, List.set_cons_zero, List.set_cons_succ]
      clear hK
      rw [← bv_app, ← List.length_append] at ho8
      have hB8 := Lib.hid (Bl.grown hB7.out hg8 (fun k hk => by injection hk with hk; subst hk; exact Hvb6))
      clear hg8 hB7 HA7 HL3
      refine seq_at (some 8) (v := ?_) rfl (by kernel_rfl) (by kernel_rfl) ?_ ?_
      rotate_left
      · intro w' hw'
        go_simp
        try with_reducible rfl
      simp only [Act.put, List.setIfInBounds_toArray, List.set_cons_zero, List.set_cons_succ]
      refine seq_nil ?_
      go_wp2_with fail
      go_roundg (gk - 1)
      case measure => have := hj.out; omega
      case rel => exact ⟨j + 1, _, (by go_num), ⟨(by have := hj.out; omega), (by rw [encs_take P j hlt, hp, hl2.out, hj.out.2, List.append_assoc, List.append_assoc]; rfl)⟩, ho8, hB8, isSome_of rfl hv8⟩
    · have el : B = l := by rw [hj.out.2, List.take_of_length_le (by omega), HB.out]; rfl
      subst el
      have HOb7 := Lib.hid (own_below HOb.out hb.out)
      have HB7 := Lib.hid (Bl.step HB3.out hb.out)
      have Hsz : w3.heap.size ≤ wr.heap.size := hb.out.size
      have HD0 : Hid (dec 0 0 (B.drop 0) = some (P.length, (enc P.length).length)) := Lib.hid (by rw [HB.out]; exact dec_enc hu _)
      have HM : Hid (many dec2 P.length (B.drop (0 + (enc P.length).length)) = some (P, (encs P).length)) := Lib.hid (by rw [HB.out, Nat.zero_add]; exact many_encL P hP)
      have HL0 : Hid (B.length - (0 + (enc P.length).length + (encs P).length) = 0) := Lib.hid (by rw [HB.out]; unfold encL; rw [List.length_append]; omega)
      clear hb hj HOb HB3 HO3 HA3
      go_wp2_with fail
      clear hlt
      refine (open_any (some ⟨gb, 0, none⟩) cb B _ (own_at HOb7.out) (by omega)).mono ?_
      rintro e w8 ⟨g, ad, cr, rfl, hr8, hge, _, hb8⟩
      have HB8 := Lib.hid (Bl.step HB7.out hb8)
      have HOb8 := Lib.hid (own_below HOb7.out hb8)
      have k1 := own_conv HOb8.out
      have k2 := own_conv (own_below HOl.out hb8)
      have Hg : gb < g := by omega
      have Hgw : w.heap.size ≤ g := by omega
      clear hb8 HB7 HOb7 HOl hge
      by_cases h0 : 0 < P.length
      case' pos =>
        obtain ⟨k, hk⟩ : ∃ k, P.length = k + 1 := ⟨P.length - 1, by omega⟩
        have hw : IntKind.i64.wrap ((P.length : Int) - 1) = (k : Int) := (IntWalk.i64_in _ (by omega)).trans (by omega)
        replace hk := Lib.hid hk
        go_wp2_with fail
        clear hw k1 k2
        refine (take2_fail _ _ _ _ _ _ hr8 (k : Int) 3 _ rfl (count_long _ _ _ _ _ _ hr8 (k : Int) (by omega) (by have := hk.out; omega) HD0.out (by have := hk.out; omega))).mono ?_
        rintro e w9 ⟨rfl, hr9, hg9⟩
        have HB9 := Lib.hid (Bl.grown HB8.out hg9 (fun k hk => by injection hk with hk; omega))
        have HOb9 := Lib.hid (kept_by HOb8.out hg9 (fun k hk => by injection hk with hk; subst hk; exact Nat.ne_of_lt Hg))
        clear HB8 HOb8 hr8 hg9
        go_wp2_with fail
        refine (num_any _ _).mono ?_
        rintro e w' ⟨rfl, rfl⟩
        go_wp2_with fail
        refine (left_yes _ _ _ _ _ _ hr9).mono ?_
        rintro e w' ⟨rfl, n9, rfl⟩
        rw [Nat.sub_zero]
        go_wp2_with fail
        have hrj := hr9.drewN n9
        have HBj := Lib.hid (Bl.drewN HB9.out n9)
        have HObj := Lib.hid (own_below HOb9.out (Bl.drewN (Below.refl _ _) n9))
        clear hr9 HB9 HOb9
        generalize w9.drewN n9 = W at *
        clear hk
        replace h0 : True := trivial
      case' neg =>
        go_wp2_with fail
        clear k1 k2
        have hrj := hr8
        have HBj := HB8
        have HObj := HOb8
        clear hr8 HB8 HOb8
        generalize w8 = W at *
        replace h0 : True := trivial
      all_goals
        refine (take2_any _ _ _ _ _ _ hrj (by omega) (P.length : Int) (by omega) HD0.out (by omega)).mono ?_
        intro e W2 hpost
        unfold TakeRead at hpost
        rw [HM.out] at hpost
        obtain ⟨tb, tc, rfl, hot, hrt, hgt⟩ := hpost
        have HBt := Lib.hid (Bl.grown HBj.out hgt (fun k hk => by injection hk with hk; omega))
        have HObt := Lib.hid (kept_by HObj.out hgt (fun k hk => by injection hk with hk; subst hk; exact Nat.ne_of_lt Hg))
        have HOt := Lib.hid hot
        clear HBj HObj hrj hgt hot
        go_wp2_with fail
        refine (num_any _ _).mono ?_
        rintro e w' ⟨rfl, rfl⟩
        go_wp2_with fail
        refine (left_yes _ _ _ _ _ _ hrt).mono ?_
        rintro e w' ⟨rfl, n9, rfl⟩
        rw [HL0.out]
        go_wp2_with fail
        go_loopg [15] P.length (fun k i wr => ∃ (j n : Nat), i = .int .i64 (j : Int) ∧ Hid (j + k = P.length) ∧ wr = W2.drewN n)
        case atStart => exact ⟨0, n9, rfl, Nat.zero_add _, rfl⟩
        case round =>
          obtain ⟨j, n, rfl, hj, rfl⟩ := hrel
          by_cases hlt : j < P.length
          · obtain ⟨⟨a, b⟩, hp⟩ : ∃ p, P[j] = p := ⟨_, rfl⟩
            obtain ⟨aa, rfl, q0, q1⟩ := pair_at (hA.mono HBt.out) hlt hp
            obtain ⟨ad2, e, q2, q3⟩ := pair_at (own_at HOt.out) hlt hp
            injection e with e
            subst e
            simp only [add0] at q2 q3
            go_wp2_with fail
            go_quiet (fail)
            go_wp2_with fail
            go_roundg (gk - 1)
            case measure => have := hj.out; omega
            case rel => exact ⟨j + 1, _, (by go_num), (by have := hj.out; show _ = _; omega), rfl⟩
          · have HBn := Lib.hid (Bl.drewN HBt.out n)
            have HObn := Lib.hid (own_below HObt.out (Bl.drewN (Below.refl W2.heap.size W2) n))
            have hcb : B.length ≤ cb := by
              obtain ⟨_, _, e, hle⟩ := own_form HObt.out
              injection e with _ _ e
              omega
            clear HBt HObt HOt hrt
            generalize W2.drewN n = W3 at *
            by_cases hc : cut < 0
            · go_wp2_with fail
              refine (known_any _).mono ?_
              rintro e w18 ⟨rfl, hb18⟩
              have HB18 := Lib.hid (Bl.step HBn.out hb18)
              clear hb18 HBn
              go_wp2_with fail
              go_ret
              exact ⟨rfl, HB18.out⟩
            · obtain ⟨q, rfl⟩ : ∃ q : Nat, cut = (q : Int) := ⟨cut.toNat, by omega⟩
              by_cases hq : B.length ≤ q
              · go_wp2_with fail
                refine (known_any _).mono ?_
                rintro e w18 ⟨rfl, hb18⟩
                have HB18 := Lib.hid (Bl.step HBn.out hb18)
                clear hb18 HBn
                go_wp2_with fail
                go_ret
                exact ⟨rfl, HB18.out⟩
              · have hqc : q ≤ cb := by omega
                go_wp2_with fail
                have es : (B.take q).length = q := by rw [List.length_take]; omega
                have HN := open_any (some ⟨gb, 0, none⟩) cb (B.take q) _ (at_take (own_at HObn.out) q) (by omega)
                rw [es] at HN
                replace HN := Lib.hid HN
                refine HN.out.mono ?_
                rintro e w16 ⟨g16, ad16, c16, rfl, hr16, hge, hge2, hb16⟩
                have HB16 := Lib.hid (Bl.step HBn.out hb16)
                have G16 : w.heap.size ≤ g16 := by have := HBn.out.size; omega
                have HD : Hid (Calls Try.prog 29 #[.pointer (some ⟨g16, 0, none⟩), .int .i64 (P.length : Int), .func (.func 30) #[] #[]] w16 (Rd2 w16 g16 ad16 c16 (B.take q) 0 (.slice none 0 0) (.int .i64 4))) := by
                  refine Lib.hid ?_
                  rcases cut_encL P hu hP q (by rw [← HB.out]; omega) with h | ⟨h1, h2⟩
                  · rw [← HB.out] at h
                    exact take2_fail _ _ _ _ _ _ hr16 (P.length : Int) 4 _ rfl (count_no _ _ _ _ _ _ hr16 (P.length : Int) (by omega) h)
                  · rw [← HB.out] at h1 h2
                    refine (take2_any _ _ _ _ _ _ hr16 (by omega) (P.length : Int) (by omega) h1 (by omega)).mono ?_
                    intro e W2 hpost
                    unfold TakeRead at hpost
                    rw [Nat.zero_add, h2] at hpost
                    exact hpost
                clear HBn HN hb16 hge hge2 hr16 HObn
                go_wp2_with fail
                refine HD.out.mono ?_
                rintro e w17 ⟨rfl, hr17, hg⟩
                have HB17 := Lib.hid (Bl.grown HB16.out hg (fun k hk => by injection hk with hk; omega))
                clear hg HB16 HD
                go_wp2_with fail
                refine (num_any _ _).mono ?_
                rintro e w' ⟨rfl, rfl⟩
                go_wp2_with fail
                refine (left_yes _ _ _ _ _ _ hr17).mono ?_
                rintro e w' ⟨rfl, n17, rfl⟩
                rw [Nat.sub_zero, es]
                go_wp2_with fail
                refine (known_any _).mono ?_
                rintro e w18 ⟨rfl, hb18⟩
                have HB18 := Lib.hid (Bl.step (Bl.drewN HB17.out n17) hb18)
                clear hb18 HB17
                go_wp2_with fail
                go_ret
                exact ⟨rfl, HB18.out⟩
end Go.Proofs.Ytemmdlanidepbaa
