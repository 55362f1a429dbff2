/- Contracts of the law's pair and form. -/
import Derived.Test.YtemmdlanidepbaaRdBytes
import Derived.Test.YtemmdlanidepbaaSeq
import Derived.Test.YtemmdlanidepbaaMany
import Derived.Laws.ResultCell
namespace Go.Proofs.Ytemmdlanidepbaa
open Go.RowKit
set_option linter.unusedSimpArgs false

/-- pairs as cells -/
def pv (P : List (Nat × Nat)) : List Value := P.flatMap fun p => [.int .u64 (p.1 : Int), .int .u64 (p.2 : Int)]
theorem pv_app (P Q : List (Nat × Nat)) : pv (P ++ Q) = pv P ++ pv Q := by simp [pv]
theorem pv_len : ∀ (P : List (Nat × Nat)), (pv P).length = P.length * 2
  | [] => rfl
  | p :: P => by
    have := pv_len P
    have e : pv (p :: P) = [.int .u64 (p.1 : Int), .int .u64 (p.2 : Int)] ++ pv P := rfl
    rw [e, List.length_append, this, List.length_cons]
    simp
    omega
theorem pv_one (P : List (Nat × Nat)) : ∀ u ∈ pv P, u.oneCell' = true := by
  intro u hu
  simp only [pv, List.mem_flatMap, List.mem_cons, List.not_mem_nil, or_false] at hu
  obtain ⟨p, _, rfl | rfl⟩ := hu
  all_goals rfl
theorem pv_get : ∀ (P : List (Nat × Nat)) (j : Nat) (hj : j < P.length), (pv P)[2 * j]? = some (.int .u64 ((P[j]).1 : Int)) ∧ (pv P)[2 * j + 1]? = some (.int .u64 ((P[j]).2 : Int))
  | p :: P, 0, _ => ⟨rfl, rfl⟩
  | p :: P, j + 1, hj => pv_get P j (by simpa using hj)
theorem infoPair : (Try.prog.info? 51).map (fun i => (i.zero, i.size, i.bytes)) = some (some (.agg #[.int .u64 0, .int .u64 0]), 2, 16) := by kernel_rfl

/-- a pair as a value -/
def pairV (p : Nat × Nat) : Value := .agg #[.int .u64 (p.1 : Int), .int .u64 (p.2 : Int)]

set_option maxRecDepth 100000 in
theorem form_any (a b : Nat) (ha : U64 a) (hb : U64 b) (w : World) : Calls Try.prog 28 #[pairV (a, b)] w (NewRow w (enc a ++ enc b)) := by
  show Calls Try.prog 28 #[.agg #[.int .u64 (a : Int), .int .u64 (b : Int)]] w (NewRow w (enc a ++ enc b))
  have la := enc_len ha
  have lb := enc_len hb
  have hau : (a : Int) < 18446744073709551616 := by unfold U64 at ha; omega
  have hbu : (b : Int) < 18446744073709551616 := by unfold U64 at hb; omega
  go_enter Try.func28, Try.ntmps28
  go_wp2_with fail
  refine wp_region_seq (fun k => w.heap.size < k) [] [(0, true), (1, true), (3, true), (4, true), (2, false), (5, false), (6, false), (7, true)] (by kernel_rfl) (by kernel_rfl) (fun _ _ d _ _ h => by cases d <;> exact h) rfl (by kernel_rfl) ?_
  have U : Up (fun k => w.heap.size < k) (w.alloc (.cells #[.int .u64 (a : Int), .int .u64 (b : Int)] 51)).drew (fun u => u.cell? ⟨w.heap.size, 0, none⟩ = some (.int .u64 (a : Int)) ∧ u.cell? ⟨w.heap.size, 1, none⟩ = some (.int .u64 (b : Int))) :=
    Up.later ((Up.cell (show (w.alloc (.cells #[.int .u64 (a : Int), .int .u64 (b : Int)] 51)).cell? ⟨w.heap.size, 0, none⟩ = _ by simp) (Nat.lt_irrefl _)).and (Up.cell (show (w.alloc (.cells #[.int .u64 (a : Int), .int .u64 (b : Int)] 51)).cell? ⟨w.heap.size, 1, none⟩ = _ by simp) (Nat.lt_irrefl _))) (Ex.drewN _ _ 1)
  have HB : Hid (Below w.heap.size w (w.alloc (.cells #[.int .u64 (a : Int), .int .u64 (b : Int)] 51)).drew) := ((Below.refl _ _).alloc (Nat.le_refl _) _).drew
  have Hs : Hid (w.heap.size < (w.alloc (.cells #[.int .u64 (a : Int), .int .u64 (b : Int)] 51)).drew.heap.size) := Lib.hid (by simp [World.drew])
  generalize (w.alloc (.cells #[.int .u64 (a : Int), .int .u64 (b : Int)] 51)).drew = W at *
  refine seq_at (some 3) (v := ?_) rfl (by kernel_rfl) (by kernel_rfl) ?_ ?_
  rotate_left
  · intro w' hw'
    obtain ⟨q0, q1⟩ := U w' hw'
    go_simp
    try with_reducible rfl
  simp only [Act.put, List.setIfInBounds_toArray, List.set_cons_zero, List.set_cons_succ]
  refine seq_at (some 4) (v := ?_) rfl (by kernel_rfl) (by kernel_rfl) ?_ ?_
  rotate_left
  · intro w' hw'
    obtain ⟨q0, q1⟩ := U w' hw'
    go_simp
    try with_reducible rfl
  simp only [Act.put, List.setIfInBounds_toArray, List.set_cons_zero, List.set_cons_succ]
  refine seq_at (some 6) (v := ?_) rfl (by kernel_rfl) (by kernel_rfl) ?_ ?_
  rotate_left
  · intro w' hw'
    obtain ⟨q0, q1⟩ := U w' hw'
    go_simp
    try with_reducible rfl
  simp only [Act.put, List.setIfInBounds_toArray, List.set_cons_zero, List.set_cons_succ]
  refine seq_at (some 7) (v := ?_) rfl (by kernel_rfl) (by kernel_rfl) ?_ ?_
  rotate_left
  · intro w' hw'
    obtain ⟨q0, q1⟩ := U w' hw'
    go_simp
    try with_reducible rfl
  simp only [Act.put, List.setIfInBounds_toArray, List.set_cons_zero, List.set_cons_succ]
  refine seq_eff rfl (by kernel_rfl) (fun K hK => ?_)
  go_simp
  refine (number_any a ha _).mono ?_
  rintro e w1 ⟨g1, c1, rfl, ho1, hb1⟩
  refine hK.out _ _ (.inl (Ex.below hb1)) ?_
  try simp only [Act.put, List.setIfInBounds_toArray, List.set_cons_zero, List.set_cons_succ]
  clear hK
  have HO1 := Lib.hid ho1
  have HB1 := Lib.hid (Bl.step HB.out hb1)
  clear ho1 hb1 HB
  refine seq_eff rfl (by kernel_rfl) (fun K hK => ?_)
  go_simp
  refine (number_any b hb _).mono ?_
  rintro e w2 ⟨g2, c2, rfl, ho2, hb2⟩
  refine hK.out _ _ (.inl (Ex.below hb2)) ?_
  try simp only [Act.put, List.setIfInBounds_toArray, List.set_cons_zero, List.set_cons_succ]
  clear hK
  have HO2 := Lib.hid (own_lower (own_below HO1.out hb2) (Nat.le_of_lt Hs.out))
  have HA2 := Lib.hid (own_at ho2)
  have Hg1 : w.heap.size < g1 := Nat.lt_of_lt_of_le Hs.out (HO1.out.lt g1 rfl).1
  have HB2 := Lib.hid (Bl.step HB1.out hb2)
  clear ho2 hb2 HB1 HO1
  refine seq_eff rfl (by kernel_rfl) (fun K hK => ?_)
  refine wp_app_rows _ _ _ 23 rfl w.heap.size 5 (.int .u8 0) 1 1 Try.underlying23 infoU8 rfl (by omega) (.slice (some ⟨g1, 0, none⟩) (enc a).length c1) (enc a).length (bv (enc a)) rfl HO2.out (some ⟨g2, 0, none⟩) (enc b).length c2 (bv (enc b)) rfl (by simp [bv_len]) HA2.out (bv_one _) (by simp only [maxLen]; omega) (by omega) HB2.out.size ?_
  intro v' w' ho' hg' hv'
  show K (Act.put _ (some 9) v') w'
  refine hK.out _ _ (.inl (Ex.grown hg' (fun k hk => by injection hk with hk; subst hk; exact Hg1))) ?_
  try simp only [Act.put, List.setIfInBounds_toArray, List.set_cons_zero, List.set_cons_succ]
  clear hK
  refine seq_at (some 2) (v := ?_) rfl (by kernel_rfl) (by kernel_rfl) ?_ ?_
  rotate_left
  · intro w' hw'
    go_simp
    try with_reducible rfl
  simp only [Act.put, List.setIfInBounds_toArray, List.set_cons_zero, List.set_cons_succ]
  refine seq_nil ?_
  go_wp2_with fail
  go_ret
  rw [← bv_app, ← List.length_append] at ho'
  obtain ⟨g3, c3, rfl⟩ := own_pos ho' (by have := enc_pos a; simp; omega)
  exact ⟨g3, c3, rfl, ho', Bl.grown HB2.out hg' (fun k hk => by injection hk with hk; subst hk; exact Nat.le_of_lt Hg1)⟩

theorem kept_by {w w' : World} {base n : Nat} {e : TypeId} {size g : Nat} {v : Value} {xs : List Value} (h : w.ownsRow base e size v n xs) (hg : w.grownBy w' (some g)) (hne : ∀ k, v.ownBlock = some k → k ≠ g) : w'.ownsRow base e size v n xs := by
  refine h.kept hg ?_
  cases hv : v.ownBlock with
  | none => exact .inl rfl
  | some k => exact .inr (fun e => hne k hv (by injection e))
/-- 'append(v, p)': one pair, which lies in a new block. -/
theorem app_pair {ops : Array Oper} {rest : List Oper} {o : Oper} {a : Act} {Q : Exit → Act → World → Prop} {W : World} (hgd : o.guard = none) (s x : Operand)
    (ho : o.op = .call { callee := .builtin .append, args := #[s, x], argTypes := #[50, 50] })
    (base : Nat) (v : Value) (P : List (Nat × Nat)) (hs : a.eval s = v) (hown : W.ownsRow base 51 2 v P.length (pv P)) (p : Nat × Nat)
    (hx : a.eval x = .slice (some ⟨W.heap.size, 0, none⟩) 1 1) (hle : P.length + 1 ≤ 8796093022208) (hbase : base ≤ W.heap.size)
    (h : ∀ v' w', w'.ownsRow base 51 2 v' (P ++ [p]).length (pv (P ++ [p])) → W.grownBy w' v.ownBlock → (v'.ownBlock = v.ownBlock ∨ ∃ g, v'.ownBlock = some g ∧ W.heap.size ≤ g) → wpList Try.prog ops Q rest (a.put o.dst v') w') :
    wpList Try.prog ops Q (o :: rest) a (W.alloc (.cells #[.int .u64 (p.1 : Int), .int .u64 (p.2 : Int)] 51)) := by
  refine app_rows _ hgd s x 50 ho base 51 (.agg #[.int .u64 0, .int .u64 0]) 2 16 Try.underlying50 infoPair rfl (by omega) v P.length (pv P) hs (hown.alloc _) (some ⟨W.heap.size, 0, none⟩) 1 1 (pv [p]) hx rfl ?_ (pv_one _) (by simp only [maxLen]; omega) (by omega) (by simp; omega) ?_
  · intro j u hj
    refine ⟨_, rfl, ?_⟩
    match j, hj with
    | 0, hj =>
      have e : (Value.int .u64 (p.1 : Int)) = u := by simpa [pv] using hj
      subst e
      rw [add0]
      simp
    | 1, hj =>
      have e : (Value.int .u64 (p.2 : Int)) = u := by simpa [pv] using hj
      subst e
      rw [add0]
      simp
    | j + 2, hj => simp [pv] at hj
  · intro v' w' h2 h3 h4
    refine h v' w' (by rw [pv_app]; simpa using h2) ?_ ?_
    · exact ⟨h3.os, h3.tape, h3.output, Nat.le_trans (by simp) h3.size, fun k hk hr => (h3.block k (by simp; omega) hr).trans (Below.heap_alloc _ _ _ hk)⟩
    · rcases h4 with h4 | ⟨g, h4, h5⟩
      · exact .inl h4
      · exact .inr ⟨g, h4, by simp at h5; omega⟩
/-- a block that came later has turned -/
theorem Rdr.off {w w2 w3 : World} {g : Nat} {ad : Addr} {c : Nat} {l : List UInt8} {p0 p k : Nat} (h0 : Rdr w g ad c l p0) (h : Rdr w2 g ad c l p) (hg : w2.grownBy w3 (some k)) (hk : w.heap.size ≤ k) : Rdr w3 g ad c l p := by
  have hlt := h0.lt
  refine ⟨(hg.block g h.lt (fun e => by injection e with e; omega)).trans h.blk, fun j u hj => ?_, h.pos_le, h.len, h.cap, h.apart⟩
  obtain ⟨ad', e, hc⟩ := h.bytes j u hj
  obtain ⟨ad2, e2, hc2⟩ := h0.bytes j u hj
  have hb := World.block_lt_of_cell? w _ hc2
  rw [add_block] at hb
  injection e with e
  injection e2 with e2
  subst e
  subst e2
  exact ⟨_, rfl, hg.cell hc (fun e => by rw [add_block] at e; injection e with e; omega)⟩

section
variable (w : World) (g : Nat) (ad : Addr) (c : Nat) (l : List UInt8) (pos : Nat) (h : Rdr w g ad c l pos)
include h
/-- the result's cells behind the two calls -/
theorem pair_cells {w2 : World} (hx : (w.alloc (.cells #[.int .u64 0, .int .u64 0] 51)).grownBy w2 (some g)) :
    w2.cell? ⟨w.heap.size, 0, none⟩ = some (.int .u64 0) ∧ w2.cell? ⟨w.heap.size, 1, none⟩ = some (.int .u64 0) ∧ w2.frozen? ⟨w.heap.size, 0, none⟩ = false ∧ w2.frozen? ⟨w.heap.size, 1, none⟩ = false := by
  have hne : some w.heap.size ≠ some g := fun e => by injection e with e; have := h.lt; omega
  have hB : w2.heap[w.heap.size]? = some (.cells #[.int .u64 0, .int .u64 0] 51) := (hx.block _ (by simp) hne).trans (heap_alloc_new _ _)
  exact ⟨hx.cell (by simp) hne, hx.cell (by simp) hne, by simp [World.frozen?, hB], by simp [World.frozen?, hB]⟩
theorem pair_stored {w2 : World} {p : Nat} (hx : (w.alloc (.cells #[.int .u64 0, .int .u64 0] 51)).grownBy w2 (some g)) (hr : Rdr w2 g ad c l p) (x y : Value) :
    ((w2.setCell ⟨w.heap.size, 0, none⟩ x).setCell ⟨w.heap.size, 1, none⟩ y).cell? ⟨w.heap.size, 0, none⟩ = some x ∧ ((w2.setCell ⟨w.heap.size, 0, none⟩ x).setCell ⟨w.heap.size, 1, none⟩ y).cell? ⟨w.heap.size, 1, none⟩ = some y ∧
    Rdr ((w2.setCell ⟨w.heap.size, 0, none⟩ x).setCell ⟨w.heap.size, 1, none⟩ y) g ad c l p ∧ w.grownBy ((w2.setCell ⟨w.heap.size, 0, none⟩ x).setCell ⟨w.heap.size, 1, none⟩ y) (some g) := by
  have hne : some w.heap.size ≠ some g := fun e => by injection e with e; have := h.lt; omega
  have hB : w2.heap[w.heap.size]? = some (.cells #[.int .u64 0, .int .u64 0] 51) := (hx.block _ (by simp) hne).trans (heap_alloc_new _ _)
  have hg := grown_trans (grown_set w2 w.heap.size 0 x) (grown_set _ w.heap.size 1 y) (.inl rfl)
  refine ⟨by simp [World.cell?, World.setCell, Array.getElem?_modify, hB], by simp [World.cell?, World.setCell, Array.getElem?_modify, hB], h.off hr hg (Nat.le_refl _), ?_⟩
  exact grown_trans (grown_trans (grown_of_below ((Below.refl _ _).alloc (Nat.le_refl _) _) (some g)) hx (.inl rfl)) hg (.inr ⟨_, rfl, Nat.le_refl _⟩)
theorem pair_ok {a k b m : Nat} (hd : dec 0 0 (l.drop pos) = some (a, k)) (hd2 : dec 0 0 (l.drop (pos + k)) = some (b, m)) :
    Calls Try.prog 30 #[.pointer (some ⟨g, 0, none⟩)] w (Rd2 w g ad c l (pos + k + m) (pairV (a, b)) (.int .i64 0)) := by
  go_enter Try.func30, Try.ntmps30
  go_wp2_with fail
  have hb0 : Below w.heap.size w (w.alloc (.cells #[.int .u64 0, .int .u64 0] 51)) := (Below.refl _ _).alloc (Nat.le_refl _) _
  refine (rdNumber_ok _ _ _ _ _ _ (h.below hb0) hd).mono ?_
  rintro e w1 ⟨rfl, hr, hg⟩
  go_wp2_with fail
  refine (rdNumber_ok _ _ _ _ _ _ hr hd2).mono ?_
  rintro e w2 ⟨rfl, hr2, hg2⟩
  have hx := grown_trans hg hg2 (.inl rfl)
  obtain ⟨c0, c1, f0, f1⟩ := pair_cells w g ad c l pos h hx
  go_wp2_with fail
  obtain ⟨z0, z1, hr3, hg3⟩ := pair_stored w g ad c l pos h hx hr2 (.int .u64 (a : Int)) (.int .u64 (b : Int))
  generalize (w2.setCell ⟨w.heap.size, 0, none⟩ (.int .u64 (a : Int))).setCell ⟨w.heap.size, 1, none⟩ (.int .u64 (b : Int)) = W3 at *
  clear hx c0 c1 f0 f1 hr hr2 hg hg2
  (try simp only [Exit.inBlock, Exit.then])
  refine bodyPost_ret (v := .tuple #[pairV (a, b), .int .i64 0]) ?_ rfl ⟨rfl, hr3, hg3⟩
  rw [results_cell_tmp rfl]
  go_simp
  rfl
theorem pair_no1 (hd : dec 0 0 (l.drop pos) = none) :
    Calls Try.prog 30 #[.pointer (some ⟨g, 0, none⟩)] w (Rd2 w g ad c l pos (pairV (0, 0)) (.int .i64 4)) := by
  go_enter Try.func30, Try.ntmps30
  go_wp2_with fail
  have hb0 : Below w.heap.size w (w.alloc (.cells #[.int .u64 0, .int .u64 0] 51)) := (Below.refl _ _).alloc (Nat.le_refl _) _
  refine (rdNumber_no _ _ _ _ _ _ (h.below hb0) hd).mono ?_
  rintro e w2 ⟨rfl, hr2, hx⟩
  obtain ⟨c0, c1, f0, f1⟩ := pair_cells w g ad c l pos h hx
  go_wp2_with fail
  obtain ⟨z0, z1, hr3, hg3⟩ := pair_stored w g ad c l pos h hx hr2 (.int .u64 0) (.int .u64 0)
  generalize (w2.setCell ⟨w.heap.size, 0, none⟩ (.int .u64 0)).setCell ⟨w.heap.size, 1, none⟩ (.int .u64 0) = W3 at *
  clear hx c0 c1 f0 f1 hr2
  (try simp only [Exit.inBlock, Exit.then])
  refine bodyPost_ret (v := .tuple #[pairV (0, 0), .int .i64 4]) ?_ rfl ⟨rfl, hr3, hg3⟩
  rw [results_cell_tmp rfl]
  go_simp
  rfl
theorem pair_no2 {a k : Nat} (hd : dec 0 0 (l.drop pos) = some (a, k)) (hd2 : dec 0 0 (l.drop (pos + k)) = none) :
    Calls Try.prog 30 #[.pointer (some ⟨g, 0, none⟩)] w (Rd2 w g ad c l (pos + k) (pairV (a, 0)) (.int .i64 4)) := by
  go_enter Try.func30, Try.ntmps30
  go_wp2_with fail
  have hb0 : Below w.heap.size w (w.alloc (.cells #[.int .u64 0, .int .u64 0] 51)) := (Below.refl _ _).alloc (Nat.le_refl _) _
  refine (rdNumber_ok _ _ _ _ _ _ (h.below hb0) hd).mono ?_
  rintro e w1 ⟨rfl, hr, hg⟩
  go_wp2_with fail
  refine (rdNumber_no _ _ _ _ _ _ hr hd2).mono ?_
  rintro e w2 ⟨rfl, hr2, hg2⟩
  have hx := grown_trans hg hg2 (.inl rfl)
  obtain ⟨c0, c1, f0, f1⟩ := pair_cells w g ad c l pos h hx
  go_wp2_with fail
  obtain ⟨z0, z1, hr3, hg3⟩ := pair_stored w g ad c l pos h hx hr2 (.int .u64 (a : Int)) (.int .u64 0)
  generalize (w2.setCell ⟨w.heap.size, 0, none⟩ (.int .u64 (a : Int))).setCell ⟨w.heap.size, 1, none⟩ (.int .u64 0) = W3 at *
  clear hx c0 c1 f0 f1 hr hr2 hg hg2
  (try simp only [Exit.inBlock, Exit.then])
  refine bodyPost_ret (v := .tuple #[pairV (a, 0), .int .i64 4]) ?_ rfl ⟨rfl, hr3, hg3⟩
  rw [results_cell_tmp rfl]
  go_simp
  rfl
/-- what a pair's reading leaves -/
theorem pair_any : Calls Try.prog 30 #[.pointer (some ⟨g, 0, none⟩)] w (fun e w' => match dec2 (l.drop pos) with
    | some (p, k) => Rd2 w g ad c l (pos + k) (pairV p) (.int .i64 0) e w' ∧ 0 < k
    | none => ∃ p q, Rd2 w g ad c l q (pairV p) (.int .i64 4) e w') := by
  unfold dec2
  cases hd : dec 0 0 (l.drop pos) with
  | none => exact (pair_no1 w g ad c l pos h hd).mono fun _ _ k => ⟨_, _, k⟩
  | some r =>
    obtain ⟨a, k⟩ := r
    have hf := dec_fits _ _ _ (by omega) (by simp) _ _ hd
    simp only [List.drop_drop]
    cases hd2 : dec 0 0 (l.drop (pos + k)) with
    | none => exact (pair_no2 w g ad c l pos h hd hd2).mono fun _ _ k => ⟨_, _, k⟩
    | some r =>
      obtain ⟨b, m⟩ := r
      exact (pair_ok w g ad c l pos h hd hd2).mono fun _ _ h2 => ⟨by rw [← Nat.add_assoc]; exact h2, by show 0 < k + m; omega⟩
end
end Go.Proofs.Ytemmdlanidepbaa
