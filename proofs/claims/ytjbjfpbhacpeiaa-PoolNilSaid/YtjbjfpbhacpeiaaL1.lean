/- Contract of the law's do: both pools take the step alike. Printed by gen_l1.py. -/
import Derived.Test.YtjbjfpbhacpeiaaR6
import Derived.Test.YtjbjfpbhacpeiaaS1
import Derived.Test.YtjbjfpbhacpeiaaS2
import Derived.Test.YtjbjfpbhacpeiaaS3
import Derived.Test.YtjbjfpbhacpeiaaQ4
import Derived.Test.YtjbjfpbhacpeiaaQ5
import Derived.Test.YtjbjfpbhacpeiaaQ7
namespace Go.Proofs.Ytjbjfpbhacpeiaa
open Go.RowKit
set_option linter.unusedSimpArgs false
set_option linter.unusedVariables false
set_option linter.unusedSectionVars false
set_option maxRecDepth 100000

/-- a step -/
structure St where
  kind : Int
  n : Int
  f : Fr
structure St.Ok (x : St) : Prop where
  kind : I64 x.kind
  n : I64 x.n
  f : x.f.Ok
def stcells (x : St) : List Value := [.int .i64 x.kind, .int .i64 x.n] ++ fcells x.f
def stA (x : St) : Array Value := (stcells x).toArray
/-- what it does -/
def stepS (S : PS) (x : St) : PS :=
  if x.kind = 1 then (setS S x.f).2
  else if x.kind = 2 then (getS S x.n).2
  else if x.kind = 3 then (dropS S x.n).2
  else if x.kind = 4 then (pinS S x.n 1).2
  else if x.kind = 5 then (pinS S x.n (-1)).2
  else if x.kind = 6 then (victimS S).2
  else if x.kind = 7 then clearS S
  else S
theorem stepS_ok {K : Int} {S : PS} (hS : S.Ok K) (hK : 0 ≤ K) (x : St) (hx : x.Ok) : (stepS S x).Ok (K + 1) := by
  have hm : ∀ {S' : PS}, S'.Ok K → S'.Ok (K + 1) := fun h => h.mono (by omega)
  unfold stepS
  split
  · exact hm (setS_ok hS hK hx.f)
  · split
    · exact hm (getS_ok hS _)
    · split
      · exact hm (dropS_ok hS _)
      · split
        · exact pinS_ok hS _ 1 (by omega)
        · split
          · exact pinS_ok hS _ (-1) (by omega)
          · split
            · exact hm (victimS_ok hS).1
            · split
              · exact (clearS_ok hS).mono (by omega)
              · exact hm hS
def DB (b m r q : Nat) (k : Nat) : Prop := k = b ∨ k = m ∨ k = r ∨ k = q
theorem apart {w : World} {b m r q : Nat} {S R : PS} (hP : PoolAt w b m S) (hR : RefAt w r q R) : (b ≠ r ∧ b ≠ q) ∧ m ≠ r ∧ m ≠ q := by
  have h1 := hP.cells
  have h2 := hR.head
  have h3 := hR.row
  obtain ⟨D, ⟨es, clock, hb, _⟩, _⟩ := hP.map
  unfold PCells at h1 h2 h3
  refine ⟨⟨fun e => ?_, fun e => ?_⟩, fun e => ?_, fun e => ?_⟩
  · rw [e, h2] at h1; injection h1 with h1; injection h1 with _ h1; exact absurd h1 (by decide)
  · rw [e, h3] at h1; injection h1 with h1; injection h1 with _ h1; exact absurd h1 (by decide)
  · rw [e, h2] at hb; cases hb
  · rw [e, h3] at hb; cases hb
/-- both pools, the step's row, what has turned -/
structure Two (w0 : World) (b m r q : Nat) (x : St) (S R : PS) (W : World) : Prop where
  pool : PoolAt W b m S
  ref : RefAt W r q R
  row : PCells W w0.heap.size (stcells x) 41
  ex : Ex (DB b m r q) w0 W
  lt : (b < w0.heap.size ∧ m < w0.heap.size) ∧ r < w0.heap.size ∧ q < w0.heap.size
section
variable {w0 W w' : World} {b m r q : Nat} {x : St} {S R S' : PS} (h : Two w0 b m r q x S R W)
include h
theorem Two.pstep (hp : PoolAt w' b m S') (hx : Ex (PB b m) W w') : Two w0 b m r q x S' R w' := by
  obtain ⟨⟨a1, a2⟩, a3, a4⟩ := apart h.pool h.ref
  have hl := h.lt
  refine ⟨hp, h.ref.kept hx (fun e => by rcases e with e | e <;> omega) (fun e => by rcases e with e | e <;> omega), h.row.kept hx (fun e => by rcases e with e | e <;> omega), h.ex.trans (hx.mono fun k hk => ?_), hl⟩
  rcases hk with e | e
  · exact .inl e
  · exact .inr (.inl e)
theorem Two.rstep (hp : RefAt w' r q S') (hx : Ex (RB r q) W w') : Two w0 b m r q x S S' w' := by
  obtain ⟨⟨a1, a2⟩, a3, a4⟩ := apart h.pool h.ref
  have hl := h.lt
  refine ⟨h.pool.kept hx (fun e => by rcases e with e | e <;> omega) (fun e => by rcases e with e | e <;> omega), hp, h.row.kept hx (fun e => by rcases e with e | e <;> omega), h.ex.trans (hx.mono fun k hk => ?_), hl⟩
  rcases hk with e | e
  · exact .inr (.inr (.inl e))
  · exact .inr (.inr (.inr e))
theorem Two.free (hx : Ex (fun _ => False) W w') : Two w0 b m r q x S R w' :=
  ⟨h.pool.kept hx id id, h.ref.kept hx id id, h.row.kept hx id, h.ex.trans (hx.mono fun k hk => hk.elim), h.lt⟩
theorem Two.alloc (o : Obj) : Two w0 b m r q x S R (W.alloc o) := h.free (Ex.alloc _ W o)
theorem Two.drew : Two w0 b m r q x S R W.drew := h.free (Ex.drew _ W)
theorem Two.drewN (n : Nat) : Two w0 b m r q x S R (W.drewN n) := h.free (Ex.drewN _ W n)
theorem Two.later (hb : Below W.heap.size W w') : Two w0 b m r q x S R w' := h.free (Ex.below hb)
theorem Two.c0 : W.cell? ⟨w0.heap.size, 0, none⟩ = some (.int .i64 x.kind) := by rw [h.row.cell]; rfl
theorem Two.c1 : W.cell? ⟨w0.heap.size, 1, none⟩ = some (.int .i64 x.n) := by rw [h.row.cell]; rfl
theorem Two.fr (hx : x.f.Ok) : (Instr.loadAt 39 (.pointer (some ⟨w0.heap.size, 2, none⟩))).run Try.prog W = .ok (.agg (fA x.f)) W := by
  refine run_loadAt_mid W w0.heap.size 2 39 (fcells x.f) _ (h.row.range _ _ fun j v hj => ?_) fr_under rfl (infoFrL hx)
  rw [stcells, List.getElem?_append_right (by simp)]
  simpa using hj
theorem Two.not_row : ¬ DB b m r q w0.heap.size := fun e => by
  have := h.lt
  rcases e with e | e | e | e <;> omega
theorem Two.up1 : Up (DB b m r q) W (fun u => u.cell? ⟨w0.heap.size, 1, none⟩ = some (.int .i64 x.n)) := Up.cell h.c1 h.not_row
theorem Two.upF (hx : x.f.Ok) : Up (DB b m r q) W (fun u => (Instr.loadAt 39 (.pointer (some ⟨w0.heap.size, 2, none⟩))).run Try.prog u = .ok (.agg (fA x.f)) u) := fun u hu => by
  refine run_loadAt_mid u w0.heap.size 2 39 (fcells x.f) _ ((h.row.kept hu h.not_row).range _ _ fun j v hj => ?_) fr_under rfl (infoFrL hx)
  rw [stcells, List.getElem?_append_right (by simp)]
  simpa using hj
end
theorem pb_db {b m r q : Nat} {W w' : World} (h : Ex (PB b m) W w') : Ex (DB b m r q) W w' := h.mono fun k hk => by
  rcases hk with e | e
  · exact .inl e
  · exact .inr (.inl e)
theorem rb_db {b m r q : Nat} {W w' : World} (h : Ex (RB r q) W w') : Ex (DB b m r q) W w' := h.mono fun k hk => by
  rcases hk with e | e
  · exact .inr (.inr (.inl e))
  · exact .inr (.inr (.inr e))
/-- how a step ends -/
def Done (w : World) (b m r q : Nat) (S' : PS) (e : Ending) (w' : World) : Prop := ∃ b' m' r' q', e = .returned (.tuple #[.pointer (some ⟨b', 0, none⟩), .pointer (some ⟨r', 0, none⟩), .bool true]) ∧ PoolAt w' b' m' S' ∧ RefAt w' r' q' S' ∧
  Ex (DB b m r q) w w' ∧ (b' = b ∨ w.heap.size ≤ b') ∧ (m' = m ∨ w.heap.size ≤ m') ∧ (r' = r ∨ w.heap.size ≤ r') ∧ (q' = q ∨ w.heap.size ≤ q')
theorem Two.done {w0 W : World} {b m r q : Nat} {x : St} {S : PS} (h : Two w0 b m r q x S S W) : Done w0 b m r q S (.returned (.tuple #[.pointer (some ⟨b, 0, none⟩), .pointer (some ⟨r, 0, none⟩), .bool true])) W :=
  ⟨b, m, r, q, rfl, h.pool, h.ref, h.ex, .inl rfl, .inl rfl, .inl rfl, .inl rfl⟩
theorem getS_fok {K : Int} {S : PS} (hS : S.Ok K) (p : Int) : (getS S p).1.1.Ok := by
  cases hi : posF p S.s with
  | none => rw [getS_miss hi]; exact fr0_ok
  | some i =>
    obtain ⟨l, hl, _⟩ := posF_some hi
    rw [getS_hit hi hl]
    exact (hS.live i l hl).1
theorem dropS_fok {K : Int} {S : PS} (hS : S.Ok K) (p : Int) : (dropS S p).1.1.Ok := by
  cases hi : posF p S.s with
  | none => rw [dropS_miss hi]; exact fr0_ok
  | some i =>
    obtain ⟨l, hl, _⟩ := posF_some hi
    rw [dropS_hit hi hl]
    exact (hS.live i l hl).1
section
variable (w : World) (b m r q : Nat) {K : Int} {S : PS} (hP : PoolAt w b m S) (hR : RefAt w r q S) (hS : S.Ok K) (hK : 0 ≤ K ∧ K ≤ 1000000) (x : St) (hx : x.Ok)
include hP hR
theorem two_start : Two w b m r q x S S (w.alloc (.cells (stA x) 41)) :=
  ⟨hP.alloc _, hR.alloc _, PCells.new w (stA x) 41, Ex.alloc _ w _, ⟨hP.cells.lt, hP.mlt⟩, hR.head.lt, hR.row.lt⟩
include hS hK hx
set_option maxHeartbeats 8000000 in
theorem do_set (hk : x.kind = 1) : Calls Try.prog 11 #[.pointer (some ⟨b, 0, none⟩), .pointer (some ⟨r, 0, none⟩), .agg (stA x)] w (Done w b m r q (setS S x.f).2) := by
  have hT := two_start w b m r q hP hR x
  have c0 := hT.c0
  rw [hk] at c0
  have H0 := Lib.hid hT
  have HS := Lib.hid hS
  have HX := Lib.hid hx
  have HK := Lib.hid hK
  clear hP hR hS hx hT hK hk
  go_enter Try.func11, Try.ntmps11
  go_upto_region 1 with fail
  generalize w.alloc (.cells (stA x) 41) = W0 at *
  go_upto_region 3 with fail
  have HD := Lib.hid H0.out.drew
  have L1 := H0.out.drew.upF HX.out.f
  have HC := Lib.hid (set_any W0.drew b m HD.out.pool HS.out HK.out.1 x.f HX.out.f)
  refine wp_region_seq (DB b m r q) [] [(0, true), (1, true), (2, true), (3, true), (4, true), (7, true), (8, true), (9, true), (5, false), (6, false), (10, false), (11, true), (12, true), (13, true), (14, true)] (by kernel_rfl) (by kernel_rfl) (fun _ _ d _ _ h => by cases d <;> exact h) rfl (by kernel_rfl) ?_
  refine seq_at (some 27) (v := ?_) rfl (by kernel_rfl) (by kernel_rfl) ?_ ?_
  rotate_left
  · intro w' hw'
    go_simp
    try with_reducible rfl
  simp only [Act.put, List.setIfInBounds_toArray, List.set_cons_zero, List.set_cons_succ]
  refine seq_at (some 28) (v := ?_) rfl (by kernel_rfl) (by kernel_rfl) ?_ ?_
  rotate_left
  · intro w' hw'
    go_simp
    try with_reducible rfl
  simp only [Act.put, List.setIfInBounds_toArray, List.set_cons_zero, List.set_cons_succ]
  refine seq_at (some 29) (v := ?_) rfl (by kernel_rfl) (by kernel_rfl) ?_ ?_
  rotate_left
  · intro w' hw'
    go_simp
    try with_reducible rfl
  simp only [Act.put, List.setIfInBounds_toArray, List.set_cons_zero, List.set_cons_succ]
  refine seq_at (some 30) (v := ?_) rfl (by kernel_rfl) (by kernel_rfl) ?_ ?_
  rotate_left
  · intro w' hw'
    go_simp
    try with_reducible rfl
  simp only [Act.put, List.setIfInBounds_toArray, List.set_cons_zero, List.set_cons_succ]
  refine seq_load_cells (some 31) rfl (by kernel_rfl) (by kernel_rfl) 39 (.tmp 30) rfl ⟨w.heap.size, 2, none⟩ _ rfl L1 ?_
  simp only [Act.put, List.setIfInBounds_toArray, List.set_cons_zero, List.set_cons_succ]
  refine seq_at (some 34) (v := ?_) rfl (by kernel_rfl) (by kernel_rfl) ?_ ?_
  rotate_left
  · intro w' hw'
    go_simp
    try with_reducible rfl
  simp only [Act.put, List.setIfInBounds_toArray, List.set_cons_zero, List.set_cons_succ]
  refine seq_at (some 35) (v := ?_) rfl (by kernel_rfl) (by kernel_rfl) ?_ ?_
  rotate_left
  · intro w' hw'
    go_simp
    try with_reducible rfl
  simp only [Act.put, List.setIfInBounds_toArray, List.set_cons_zero, List.set_cons_succ]
  refine seq_load_cells (some 36) rfl (by kernel_rfl) (by kernel_rfl) 39 (.tmp 35) rfl ⟨w.heap.size, 2, none⟩ _ rfl L1 ?_
  simp only [Act.put, List.setIfInBounds_toArray, List.set_cons_zero, List.set_cons_succ]
  refine seq_eff rfl (by kernel_rfl) (fun K hK => ?_)
  go_simp
  refine HC.out.mono ?_
  rintro e w1 ⟨rfl, h1, hx1⟩
  refine hK.out _ _ (.inl (pb_db hx1)) ?_
  try simp only [Act.put, List.setIfInBounds_toArray, List.set_cons_zero, List.set_cons_succ]
  clear hK
  have H1 := Lib.hid (HD.out.pstep h1 hx1)
  clear h1 hx1 L1
  have HC2 := Lib.hid (rset_any w1 r q H1.out.ref HS.out x.f HX.out.f)
  refine seq_eff rfl (by kernel_rfl) (fun K hK => ?_)
  go_simp
  refine (num_any _ _).mono ?_
  rintro e w' ⟨rfl, rfl⟩
  refine hK.out _ _ (.inl (Ex.refl _ _)) ?_
  try simp only [Act.put, List.setIfInBounds_toArray, List.set_cons_zero, List.set_cons_succ]
  clear hK
  refine seq_eff rfl (by kernel_rfl) (fun K hK => ?_)
  go_simp
  refine HC2.out.mono ?_
  rintro e w2 ⟨rfl, h1, hx1⟩
  refine hK.out _ _ (.inl (rb_db hx1)) ?_
  try simp only [Act.put, List.setIfInBounds_toArray, List.set_cons_zero, List.set_cons_succ]
  clear hK
  have HF := Lib.hid (H1.out.rstep h1 hx1)
  clear h1 hx1
  refine seq_at (some 38) (v := ?_) rfl (by kernel_rfl) (by kernel_rfl) ?_ ?_
  rotate_left
  · intro w' hw'
    go_simp
    try with_reducible rfl
  simp only [Act.put, List.setIfInBounds_toArray, List.set_cons_zero, List.set_cons_succ]
  refine seq_at (some 6) (v := ?_) rfl (by kernel_rfl) (by kernel_rfl) ?_ ?_
  rotate_left
  · intro w' hw'
    go_simp
    try with_reducible rfl
  simp only [Act.put, List.setIfInBounds_toArray, List.set_cons_zero, List.set_cons_succ]
  refine seq_at (some 7) (v := ?_) rfl (by kernel_rfl) (by kernel_rfl) ?_ ?_
  rotate_left
  · intro w' hw'
    go_simp
    try with_reducible rfl
  simp only [Act.put, List.setIfInBounds_toArray, List.set_cons_zero, List.set_cons_succ]
  refine seq_at (some 8) (v := ?_) rfl (by kernel_rfl) (by kernel_rfl) ?_ ?_
  rotate_left
  · intro w' hw'
    go_simp
    try with_reducible rfl
  simp only [Act.put, List.setIfInBounds_toArray, List.set_cons_zero, List.set_cons_succ]
  refine seq_nil ?_
  go_wp2_with fail
  go_ret3
  exact HF.out.done
set_option maxHeartbeats 8000000 in
theorem do_pin (hk : x.kind = 4) : Calls Try.prog 11 #[.pointer (some ⟨b, 0, none⟩), .pointer (some ⟨r, 0, none⟩), .agg (stA x)] w (Done w b m r q (pinS S x.n 1).2) := by
  have hT := two_start w b m r q hP hR x
  have c0 := hT.c0
  rw [hk] at c0
  have H0 := Lib.hid hT
  have HS := Lib.hid hS
  have HX := Lib.hid hx
  have HK := Lib.hid hK
  clear hP hR hS hx hT hK hk
  go_enter Try.func11, Try.ntmps11
  go_upto_region 1 with fail
  generalize w.alloc (.cells (stA x) 41) = W0 at *
  go_upto_region 13 with fail
  have HD := Lib.hid H0.out.drew
  have U := H0.out.drew.up1
  have HC := Lib.hid (pinUp_any W0.drew b m HD.out.pool HS.out x.n HX.out.n HK.out)
  refine wp_region_seq (DB b m r q) [] [(0, true), (1, true), (2, true), (3, true), (4, true), (7, true), (8, true), (9, true), (5, false), (6, false), (10, false), (11, true), (12, true), (13, true), (14, true)] (by kernel_rfl) (by kernel_rfl) (fun _ _ d _ _ h => by cases d <;> exact h) rfl (by kernel_rfl) ?_
  refine seq_at (some 95) (v := ?_) rfl (by kernel_rfl) (by kernel_rfl) ?_ ?_
  rotate_left
  · intro w' hw'
    obtain q0 := U w' hw'
    go_simp
    try with_reducible rfl
  simp only [Act.put, List.setIfInBounds_toArray, List.set_cons_zero, List.set_cons_succ]
  refine seq_at (some 96) (v := ?_) rfl (by kernel_rfl) (by kernel_rfl) ?_ ?_
  rotate_left
  · intro w' hw'
    obtain q0 := U w' hw'
    go_simp
    try with_reducible rfl
  simp only [Act.put, List.setIfInBounds_toArray, List.set_cons_zero, List.set_cons_succ]
  refine seq_at (some 97) (v := ?_) rfl (by kernel_rfl) (by kernel_rfl) ?_ ?_
  rotate_left
  · intro w' hw'
    obtain q0 := U w' hw'
    go_simp
    try with_reducible rfl
  simp only [Act.put, List.setIfInBounds_toArray, List.set_cons_zero, List.set_cons_succ]
  refine seq_at (some 98) (v := ?_) rfl (by kernel_rfl) (by kernel_rfl) ?_ ?_
  rotate_left
  · intro w' hw'
    obtain q0 := U w' hw'
    go_simp
    try with_reducible rfl
  simp only [Act.put, List.setIfInBounds_toArray, List.set_cons_zero, List.set_cons_succ]
  refine seq_at (some 99) (v := ?_) rfl (by kernel_rfl) (by kernel_rfl) ?_ ?_
  rotate_left
  · intro w' hw'
    obtain q0 := U w' hw'
    go_simp
    try with_reducible rfl
  simp only [Act.put, List.setIfInBounds_toArray, List.set_cons_zero, List.set_cons_succ]
  refine seq_at (some 102) (v := ?_) rfl (by kernel_rfl) (by kernel_rfl) ?_ ?_
  rotate_left
  · intro w' hw'
    obtain q0 := U w' hw'
    go_simp
    try with_reducible rfl
  simp only [Act.put, List.setIfInBounds_toArray, List.set_cons_zero, List.set_cons_succ]
  refine seq_at (some 103) (v := ?_) rfl (by kernel_rfl) (by kernel_rfl) ?_ ?_
  rotate_left
  · intro w' hw'
    obtain q0 := U w' hw'
    go_simp
    try with_reducible rfl
  simp only [Act.put, List.setIfInBounds_toArray, List.set_cons_zero, List.set_cons_succ]
  refine seq_at (some 104) (v := ?_) rfl (by kernel_rfl) (by kernel_rfl) ?_ ?_
  rotate_left
  · intro w' hw'
    obtain q0 := U w' hw'
    go_simp
    try with_reducible rfl
  simp only [Act.put, List.setIfInBounds_toArray, List.set_cons_zero, List.set_cons_succ]
  refine seq_eff rfl (by kernel_rfl) (fun K hK => ?_)
  go_simp
  refine HC.out.mono ?_
  rintro e w1 ⟨rfl, h1, hx1⟩
  refine hK.out _ _ (.inl (pb_db hx1)) ?_
  try simp only [Act.put, List.setIfInBounds_toArray, List.set_cons_zero, List.set_cons_succ]
  clear hK
  have H1 := Lib.hid (HD.out.pstep h1 hx1)
  clear h1 hx1 U
  have HC2 := Lib.hid (rpin_any w1 r q H1.out.ref HS.out x.n 1 (by omega) HK.out)
  refine seq_eff rfl (by kernel_rfl) (fun K hK => ?_)
  go_simp
  refine (num_any _ _).mono ?_
  rintro e w' ⟨rfl, rfl⟩
  refine hK.out _ _ (.inl (Ex.refl _ _)) ?_
  try simp only [Act.put, List.setIfInBounds_toArray, List.set_cons_zero, List.set_cons_succ]
  clear hK
  refine seq_eff rfl (by kernel_rfl) (fun K hK => ?_)
  go_simp
  refine HC2.out.mono ?_
  rintro e w2 ⟨rfl, h1, hx1⟩
  refine hK.out _ _ (.inl (rb_db hx1)) ?_
  try simp only [Act.put, List.setIfInBounds_toArray, List.set_cons_zero, List.set_cons_succ]
  clear hK
  have HF := Lib.hid (H1.out.rstep h1 hx1)
  clear h1 hx1
  refine seq_at (some 106) (v := ?_) rfl (by kernel_rfl) (by kernel_rfl) ?_ ?_
  rotate_left
  · intro w' hw'
    go_simp
    try with_reducible rfl
  simp only [Act.put, List.setIfInBounds_toArray, List.set_cons_zero, List.set_cons_succ]
  refine seq_at (some 6) (v := ?_) rfl (by kernel_rfl) (by kernel_rfl) ?_ ?_
  rotate_left
  · intro w' hw'
    go_simp
    try with_reducible rfl
  simp only [Act.put, List.setIfInBounds_toArray, List.set_cons_zero, List.set_cons_succ]
  refine seq_at (some 7) (v := ?_) rfl (by kernel_rfl) (by kernel_rfl) ?_ ?_
  rotate_left
  · intro w' hw'
    go_simp
    try with_reducible rfl
  simp only [Act.put, List.setIfInBounds_toArray, List.set_cons_zero, List.set_cons_succ]
  refine seq_at (some 8) (v := ?_) rfl (by kernel_rfl) (by kernel_rfl) ?_ ?_
  rotate_left
  · intro w' hw'
    go_simp
    try with_reducible rfl
  simp only [Act.put, List.setIfInBounds_toArray, List.set_cons_zero, List.set_cons_succ]
  refine seq_nil ?_
  go_wp2_with fail
  go_ret3
  exact HF.out.done
set_option maxHeartbeats 8000000 in
theorem do_unpin (hk : x.kind = 5) : Calls Try.prog 11 #[.pointer (some ⟨b, 0, none⟩), .pointer (some ⟨r, 0, none⟩), .agg (stA x)] w (Done w b m r q (pinS S x.n (-1)).2) := by
  have hT := two_start w b m r q hP hR x
  have c0 := hT.c0
  rw [hk] at c0
  have H0 := Lib.hid hT
  have HS := Lib.hid hS
  have HX := Lib.hid hx
  have HK := Lib.hid hK
  clear hP hR hS hx hT hK hk
  go_enter Try.func11, Try.ntmps11
  go_upto_region 1 with fail
  generalize w.alloc (.cells (stA x) 41) = W0 at *
  go_upto_region 15 with fail
  have HD := Lib.hid H0.out.drew
  have U := H0.out.drew.up1
  have HC := Lib.hid (pinDown_any W0.drew b m HD.out.pool HS.out x.n HX.out.n HK.out)
  refine wp_region_seq (DB b m r q) [] [(0, true), (1, true), (2, true), (3, true), (4, true), (7, true), (8, true), (9, true), (5, false), (6, false), (10, false), (11, true), (12, true), (13, true), (14, true)] (by kernel_rfl) (by kernel_rfl) (fun _ _ d _ _ h => by cases d <;> exact h) rfl (by kernel_rfl) ?_
  refine seq_at (some 109) (v := ?_) rfl (by kernel_rfl) (by kernel_rfl) ?_ ?_
  rotate_left
  · intro w' hw'
    obtain q0 := U w' hw'
    go_simp
    try with_reducible rfl
  simp only [Act.put, List.setIfInBounds_toArray, List.set_cons_zero, List.set_cons_succ]
  refine seq_at (some 110) (v := ?_) rfl (by kernel_rfl) (by kernel_rfl) ?_ ?_
  rotate_left
  · intro w' hw'
    obtain q0 := U w' hw'
    go_simp
    try with_reducible rfl
  simp only [Act.put, List.setIfInBounds_toArray, List.set_cons_zero, List.set_cons_succ]
  refine seq_at (some 111) (v := ?_) rfl (by kernel_rfl) (by kernel_rfl) ?_ ?_
  rotate_left
  · intro w' hw'
    obtain q0 := U w' hw'
    go_simp
    try with_reducible rfl
  simp only [Act.put, List.setIfInBounds_toArray, List.set_cons_zero, List.set_cons_succ]
  refine seq_at (some 112) (v := ?_) rfl (by kernel_rfl) (by kernel_rfl) ?_ ?_
  rotate_left
  · intro w' hw'
    obtain q0 := U w' hw'
    go_simp
    try with_reducible rfl
  simp only [Act.put, List.setIfInBounds_toArray, List.set_cons_zero, List.set_cons_succ]
  refine seq_at (some 113) (v := ?_) rfl (by kernel_rfl) (by kernel_rfl) ?_ ?_
  rotate_left
  · intro w' hw'
    obtain q0 := U w' hw'
    go_simp
    try with_reducible rfl
  simp only [Act.put, List.setIfInBounds_toArray, List.set_cons_zero, List.set_cons_succ]
  refine seq_at (some 116) (v := ?_) rfl (by kernel_rfl) (by kernel_rfl) ?_ ?_
  rotate_left
  · intro w' hw'
    obtain q0 := U w' hw'
    go_simp
    try with_reducible rfl
  simp only [Act.put, List.setIfInBounds_toArray, List.set_cons_zero, List.set_cons_succ]
  refine seq_at (some 117) (v := ?_) rfl (by kernel_rfl) (by kernel_rfl) ?_ ?_
  rotate_left
  · intro w' hw'
    obtain q0 := U w' hw'
    go_simp
    try with_reducible rfl
  simp only [Act.put, List.setIfInBounds_toArray, List.set_cons_zero, List.set_cons_succ]
  refine seq_at (some 118) (v := ?_) rfl (by kernel_rfl) (by kernel_rfl) ?_ ?_
  rotate_left
  · intro w' hw'
    obtain q0 := U w' hw'
    go_simp
    try with_reducible rfl
  simp only [Act.put, List.setIfInBounds_toArray, List.set_cons_zero, List.set_cons_succ]
  refine seq_eff rfl (by kernel_rfl) (fun K hK => ?_)
  go_simp
  refine HC.out.mono ?_
  rintro e w1 ⟨rfl, h1, hx1⟩
  refine hK.out _ _ (.inl (pb_db hx1)) ?_
  try simp only [Act.put, List.setIfInBounds_toArray, List.set_cons_zero, List.set_cons_succ]
  clear hK
  have H1 := Lib.hid (HD.out.pstep h1 hx1)
  clear h1 hx1 U
  have HC2 := Lib.hid (rpin_any w1 r q H1.out.ref HS.out x.n (-1) (by omega) HK.out)
  refine seq_eff rfl (by kernel_rfl) (fun K hK => ?_)
  go_simp
  refine (num_any _ _).mono ?_
  rintro e w' ⟨rfl, rfl⟩
  refine hK.out _ _ (.inl (Ex.refl _ _)) ?_
  try simp only [Act.put, List.setIfInBounds_toArray, List.set_cons_zero, List.set_cons_succ]
  clear hK
  refine seq_eff rfl (by kernel_rfl) (fun K hK => ?_)
  go_simp
  refine HC2.out.mono ?_
  rintro e w2 ⟨rfl, h1, hx1⟩
  refine hK.out _ _ (.inl (rb_db hx1)) ?_
  try simp only [Act.put, List.setIfInBounds_toArray, List.set_cons_zero, List.set_cons_succ]
  clear hK
  have HF := Lib.hid (H1.out.rstep h1 hx1)
  clear h1 hx1
  refine seq_at (some 120) (v := ?_) rfl (by kernel_rfl) (by kernel_rfl) ?_ ?_
  rotate_left
  · intro w' hw'
    go_simp
    try with_reducible rfl
  simp only [Act.put, List.setIfInBounds_toArray, List.set_cons_zero, List.set_cons_succ]
  refine seq_at (some 6) (v := ?_) rfl (by kernel_rfl) (by kernel_rfl) ?_ ?_
  rotate_left
  · intro w' hw'
    go_simp
    try with_reducible rfl
  simp only [Act.put, List.setIfInBounds_toArray, List.set_cons_zero, List.set_cons_succ]
  refine seq_at (some 7) (v := ?_) rfl (by kernel_rfl) (by kernel_rfl) ?_ ?_
  rotate_left
  · intro w' hw'
    go_simp
    try with_reducible rfl
  simp only [Act.put, List.setIfInBounds_toArray, List.set_cons_zero, List.set_cons_succ]
  refine seq_at (some 8) (v := ?_) rfl (by kernel_rfl) (by kernel_rfl) ?_ ?_
  rotate_left
  · intro w' hw'
    go_simp
    try with_reducible rfl
  simp only [Act.put, List.setIfInBounds_toArray, List.set_cons_zero, List.set_cons_succ]
  refine seq_nil ?_
  go_wp2_with fail
  go_ret3
  exact HF.out.done
set_option maxHeartbeats 8000000 in
theorem do_get (hk : x.kind = 2) : Calls Try.prog 11 #[.pointer (some ⟨b, 0, none⟩), .pointer (some ⟨r, 0, none⟩), .agg (stA x)] w (Done w b m r q (getS S x.n).2) := by
  have hT := two_start w b m r q hP hR x
  have c0 := hT.c0
  rw [hk] at c0
  have H0 := Lib.hid hT
  have HS := Lib.hid hS
  have HX := Lib.hid hx
  have HK := Lib.hid hK
  clear hP hR hS hx hT hK hk
  go_enter Try.func11, Try.ntmps11
  go_upto_region 1 with fail
  generalize w.alloc (.cells (stA x) 41) = W0 at *
  have hz := zfr
  have HFo : Hid ((getS S x.n).1.1.Ok) := Lib.hid (getS_fok HS.out x.n)
  have hq := fun u => fr_equal u (getS S x.n).1.1 (getS S x.n).1.1 HFo.out HFo.out
  rw [frB_iff.2 rfl] at hq
  have cn := H0.out.c1
  have HC := Lib.hid (get_any W0 b m H0.out.pool HS.out x.n HX.out.n)
  have HRc : Hid (∀ W, RefAt W r q S → Calls Try.prog 29 #[.pointer (some ⟨r, 0, none⟩), .int .i64 x.n] W (fun e w' => e = .returned (.tuple #[.agg (fA (getS S x.n).1.1), .int .i64 (getS S x.n).1.2]) ∧ RefAt w' r q (getS S x.n).2 ∧ Ex (RB r q) W w')) := Lib.hid (fun W hW => rget_any W r q hW HS.out x.n)
  generalize (getS S x.n).1.1 = F at *
  generalize (getS S x.n).1.2 = Er at *
  generalize (getS S x.n).2 = S' at *
  go_wp2_with fail
  refine HC.out.mono ?_
  rintro e w1 ⟨rfl, h1, hx1⟩
  have H1 := Lib.hid ((H0.out.pstep h1 hx1).alloc (.cells (fA F) 39))
  have HX1 := Lib.hid (heap_alloc_new w1 (.cells (fA F) 39))
  have cn1 := H1.out.c1
  have HC2 := Lib.hid (HRc.out _ H1.out.ref)
  clear h1 hx1 cn c0 H0 HC HRc
  go_upto_region 6 with (refine wpList_store_row rfl 39 (.tmp 9) (.tmp 46) rfl _ (fA F) rfl rfl 39 _ (heap_alloc_new _ (.cells (fA fr0) 39)) (infoFrA HFo.out) (fA_size fr0_ok HFo.out) (fv_all _) ?_; rw [World.setRow_alloc_new])
  generalize w1.heap.size = g1 at *
  generalize w1.alloc (.cells (fA F) 39) = w2 at *
  go_wp2_with fail
  refine HC2.out.mono ?_
  rintro e w3 ⟨rfl, h1, hx1⟩
  have hlt : ¬ RB r q g1 := fun e => by
    have := H1.out.ref.head.lt
    have hh := H1.out.ref.head
    have hr2 := H1.out.ref.row
    have hg := HX1.out
    unfold PCells at hh hr2
    rcases e with e | e
    · rw [e, hh] at hg; injection hg with hg; injection hg with _ hg; exact absurd hg (by decide)
    · rw [e, hr2] at hg; injection hg with hg; injection hg with _ hg; exact absurd hg (by decide)
  have HX2 := Lib.hid ((Below.heap_alloc w3 (.cells (fA F) 39) g1 (Nat.lt_of_lt_of_le (Array.getElem?_eq_some_iff.1 HX1.out).1 hx1.size)).trans ((hx1.block g1 (Array.getElem?_eq_some_iff.1 HX1.out).1 hlt).trans HX1.out))
  have HY2 := Lib.hid (heap_alloc_new w3 (.cells (fA F) 39))
  have HF := Lib.hid ((H1.out.rstep h1 hx1).alloc (.cells (fA F) 39))
  clear h1 hx1 hlt HX1 H1 HC2 cn1
  go_upto_region 7 with (refine wpList_store_row rfl 39 (.tmp 11) (.tmp 53) rfl _ (fA F) rfl rfl 39 _ (heap_alloc_new _ (.cells (fA fr0) 39)) (infoFrA HFo.out) (fA_size fr0_ok HFo.out) (fv_all _) ?_; rw [World.setRow_alloc_new])
  generalize w3.heap.size = g2 at *
  generalize w3.alloc (.cells (fA F) 39) = w4 at *
  go_wp2_with (first | (refine wpList_load_row rfl 39 (.tmp 9) rfl g1 rfl 39 (fA F) (0, 0) _ HX2.out fr_under rfl (infoFrA HFo.out) ?_) | (refine wpList_load_row rfl 39 (.tmp 11) rfl g2 rfl 39 (fA F) (0, 0) _ HY2.out fr_under rfl (infoFrA HFo.out) ?_))
  refine (num_any _ _).mono ?_
  rintro e w' ⟨rfl, rfl⟩
  go_wp2_with fail
  go_ret3
  exact HF.out.done
set_option maxHeartbeats 8000000 in
theorem do_drop (hk : x.kind = 3) : Calls Try.prog 11 #[.pointer (some ⟨b, 0, none⟩), .pointer (some ⟨r, 0, none⟩), .agg (stA x)] w (Done w b m r q (dropS S x.n).2) := by
  have hT := two_start w b m r q hP hR x
  have c0 := hT.c0
  rw [hk] at c0
  have H0 := Lib.hid hT
  have HS := Lib.hid hS
  have HX := Lib.hid hx
  have HK := Lib.hid hK
  clear hP hR hS hx hT hK hk
  go_enter Try.func11, Try.ntmps11
  go_upto_region 1 with fail
  generalize w.alloc (.cells (stA x) 41) = W0 at *
  have hz := zfr
  have HFo : Hid ((dropS S x.n).1.1.Ok) := Lib.hid (dropS_fok HS.out x.n)
  have hq := fun u => fr_equal u (dropS S x.n).1.1 (dropS S x.n).1.1 HFo.out HFo.out
  rw [frB_iff.2 rfl] at hq
  have cn := H0.out.c1
  have HC := Lib.hid (drop_any W0 b m H0.out.pool HS.out x.n HX.out.n)
  have HRc : Hid (∀ W, RefAt W r q S → Calls Try.prog 30 #[.pointer (some ⟨r, 0, none⟩), .int .i64 x.n] W (fun e w' => e = .returned (.tuple #[.agg (fA (dropS S x.n).1.1), .int .i64 (dropS S x.n).1.2]) ∧ RefAt w' r q (dropS S x.n).2 ∧ Ex (RB r q) W w')) := Lib.hid (fun W hW => rdrop_any W r q hW HS.out x.n)
  generalize (dropS S x.n).1.1 = F at *
  generalize (dropS S x.n).1.2 = Er at *
  generalize (dropS S x.n).2 = S' at *
  go_wp2_with fail
  refine HC.out.mono ?_
  rintro e w1 ⟨rfl, h1, hx1⟩
  have H1 := Lib.hid ((H0.out.pstep h1 hx1).alloc (.cells (fA F) 39))
  have HX1 := Lib.hid (heap_alloc_new w1 (.cells (fA F) 39))
  have cn1 := H1.out.c1
  have HC2 := Lib.hid (HRc.out _ H1.out.ref)
  clear h1 hx1 cn c0 H0 HC HRc
  go_upto_region 10 with (refine wpList_store_row rfl 39 (.tmp 13) (.tmp 73) rfl _ (fA F) rfl rfl 39 _ (heap_alloc_new _ (.cells (fA fr0) 39)) (infoFrA HFo.out) (fA_size fr0_ok HFo.out) (fv_all _) ?_; rw [World.setRow_alloc_new])
  generalize w1.heap.size = g1 at *
  generalize w1.alloc (.cells (fA F) 39) = w2 at *
  go_wp2_with fail
  refine HC2.out.mono ?_
  rintro e w3 ⟨rfl, h1, hx1⟩
  have hlt : ¬ RB r q g1 := fun e => by
    have := H1.out.ref.head.lt
    have hh := H1.out.ref.head
    have hr2 := H1.out.ref.row
    have hg := HX1.out
    unfold PCells at hh hr2
    rcases e with e | e
    · rw [e, hh] at hg; injection hg with hg; injection hg with _ hg; exact absurd hg (by decide)
    · rw [e, hr2] at hg; injection hg with hg; injection hg with _ hg; exact absurd hg (by decide)
  have HX2 := Lib.hid ((Below.heap_alloc w3 (.cells (fA F) 39) g1 (Nat.lt_of_lt_of_le (Array.getElem?_eq_some_iff.1 HX1.out).1 hx1.size)).trans ((hx1.block g1 (Array.getElem?_eq_some_iff.1 HX1.out).1 hlt).trans HX1.out))
  have HY2 := Lib.hid (heap_alloc_new w3 (.cells (fA F) 39))
  have HF := Lib.hid ((H1.out.rstep h1 hx1).alloc (.cells (fA F) 39))
  clear h1 hx1 hlt HX1 H1 HC2 cn1
  go_upto_region 11 with (refine wpList_store_row rfl 39 (.tmp 15) (.tmp 80) rfl _ (fA F) rfl rfl 39 _ (heap_alloc_new _ (.cells (fA fr0) 39)) (infoFrA HFo.out) (fA_size fr0_ok HFo.out) (fv_all _) ?_; rw [World.setRow_alloc_new])
  generalize w3.heap.size = g2 at *
  generalize w3.alloc (.cells (fA F) 39) = w4 at *
  go_wp2_with (first | (refine wpList_load_row rfl 39 (.tmp 13) rfl g1 rfl 39 (fA F) (0, 0) _ HX2.out fr_under rfl (infoFrA HFo.out) ?_) | (refine wpList_load_row rfl 39 (.tmp 15) rfl g2 rfl 39 (fA F) (0, 0) _ HY2.out fr_under rfl (infoFrA HFo.out) ?_))
  refine (num_any _ _).mono ?_
  rintro e w' ⟨rfl, rfl⟩
  go_wp2_with fail
  go_ret3
  exact HF.out.done
set_option maxHeartbeats 8000000 in
theorem do_victim (hk : x.kind = 6) : Calls Try.prog 11 #[.pointer (some ⟨b, 0, none⟩), .pointer (some ⟨r, 0, none⟩), .agg (stA x)] w (Done w b m r q (victimS S).2) := by
  have hT := two_start w b m r q hP hR x
  have c0 := hT.c0
  rw [hk] at c0
  have H0 := Lib.hid hT
  have HS := Lib.hid hS
  have HX := Lib.hid hx
  have HK := Lib.hid hK
  clear hP hR hS hx hT hK hk
  go_enter Try.func11, Try.ntmps11
  go_upto_region 1 with fail
  generalize w.alloc (.cells (stA x) 41) = W0 at *
  have HC := Lib.hid (victim_any W0 b m H0.out.pool HS.out)
  have HRc : Hid (∀ W, RefAt W r q S → Calls Try.prog 32 #[.pointer (some ⟨r, 0, none⟩)] W (fun e w' => e = .returned (.tuple #[.int .i64 (victimS S).1.1, .bool (victimS S).1.2]) ∧ RefAt w' r q (victimS S).2 ∧ Ex (RB r q) W w')) := Lib.hid (fun W hW => rvictim_any W r q hW HS.out)
  generalize (victimS S).1.1 = V at *
  generalize (victimS S).1.2 = B at *
  generalize (victimS S).2 = S' at *
  go_wp2_with fail
  refine HC.out.mono ?_
  rintro e w1 ⟨rfl, h1, hx1⟩
  have H1 := Lib.hid (H0.out.pstep h1 hx1)
  have HC2 := Lib.hid (HRc.out _ H1.out.ref)
  clear h1 hx1 c0 H0 HC HRc
  go_wp2_with fail
  refine HC2.out.mono ?_
  rintro e w3 ⟨rfl, h1, hx1⟩
  have HF := Lib.hid (H1.out.rstep h1 hx1)
  clear h1 hx1 H1 HC2
  go_wp2_with fail
  go_ret3
  exact HF.out.done
set_option maxHeartbeats 8000000 in
theorem do_clear (hk : x.kind = 7) : Calls Try.prog 11 #[.pointer (some ⟨b, 0, none⟩), .pointer (some ⟨r, 0, none⟩), .agg (stA x)] w (Done w b m r q (clearS S)) := by
  have hT := two_start w b m r q hP hR x
  have c0 := hT.c0
  rw [hk] at c0
  have H0 := Lib.hid hT
  have HS := Lib.hid hS
  have HX := Lib.hid hx
  have HK := Lib.hid hK
  clear hP hR hS hx hT hK hk
  go_enter Try.func11, Try.ntmps11
  go_upto_region 1 with fail
  generalize w.alloc (.cells (stA x) 41) = W0 at *
  have HC := Lib.hid (clear_any W0 b m H0.out.pool HS.out)
  go_wp2_with fail
  refine HC.out.mono ?_
  rintro e w1 ⟨rfl, h1, hx1⟩
  have H1 := Lib.hid (H0.out.pstep h1 hx1)
  have HC2 := Lib.hid (rclear_any w1 r q H1.out.ref HS.out)
  clear h1 hx1 c0 HC
  go_wp2_with fail
  refine HC2.out.mono ?_
  rintro e w3 ⟨rfl, h1, hx1⟩
  obtain ⟨⟨a1, a2⟩, a3, a4⟩ := apart H1.out.pool H1.out.ref
  have hle : w.heap.size ≤ w1.heap.size := H1.out.ex.size
  have HF : Hid (Done w b m r q (clearS S) (.returned (.tuple #[.pointer (some ⟨b, 0, none⟩), .pointer (some ⟨r, 0, none⟩), .bool true])) w3) := Lib.hid
    ⟨b, m, r, w1.heap.size, rfl, H1.out.pool.kept hx1 (fun e => by rcases e with e | e <;> omega) (fun e => by rcases e with e | e <;> omega), h1, H1.out.ex.trans (rb_db hx1), .inl rfl, .inl rfl, .inl rfl, .inr hle⟩
  clear h1 hx1 HC2 a1 a2 a3 a4
  go_wp2_with fail
  go_ret3
  exact HF.out
set_option maxHeartbeats 8000000 in
theorem do_copy (hk : x.kind = 8) : Calls Try.prog 11 #[.pointer (some ⟨b, 0, none⟩), .pointer (some ⟨r, 0, none⟩), .agg (stA x)] w (Done w b m r q S) := by
  have hT := two_start w b m r q hP hR x
  have c0 := hT.c0
  rw [hk] at c0
  have H0 := Lib.hid hT
  have HS := Lib.hid hS
  have HX := Lib.hid hx
  have HK := Lib.hid hK
  clear hP hR hS hx hT hK hk
  go_enter Try.func11, Try.ntmps11
  go_upto_region 1 with fail
  generalize w.alloc (.cells (stA x) 41) = W0 at *
  have HC := Lib.hid (copy_any W0 b m H0.out.pool HS.out)
  have hle : w.heap.size ≤ W0.heap.size := H0.out.ex.size
  have hl := H0.out.lt
  go_wp2_with fail
  refine HC.out.mono ?_
  rintro e w1 ⟨rfl, h1, hb⟩
  have H1 := Lib.hid (H0.out.later hb)
  have HN := Lib.hid h1
  have HSm := Lib.hid (same_any w1 _ _ b m h1 HS.out H1.out.pool HS.out)
  rw [psB_iff.2 rfl] at HSm
  clear h1 hb HC H0 c0
  generalize W0.heap.size = c at *
  go_wp2_with fail
  refine HSm.out.mono ?_
  rintro e w2 ⟨rfl, n, rfl⟩
  have H2 := Lib.hid (H1.out.drewN n)
  have HN2 : Hid (PoolAt (w1.drewN n) c (c + 1) S) := Lib.hid (HN.out.kept (T := fun _ => False) (Ex.drewN _ w1 n) id id)
  clear H1 HN HSm
  generalize w1.drewN n = w2 at *
  go_wp2_with fail
  refine (frame_any _ 15 (by unfold I64; omega)).mono ?_
  rintro e w3 ⟨rfl, rfl⟩
  have H3 := Lib.hid (H2.out.alloc (.cells (fA (frF 15)) 39))
  have HN3 := Lib.hid (HN2.out.alloc (.cells (fA (frF 15)) 39))
  have HC3 := Lib.hid (set_any _ b m H3.out.pool HS.out HK.out.1 (frF 15) (frF_ok (by unfold I64; omega)))
  have HS3 := Lib.hid (setS_ok HS.out HK.out.1 (frF_ok (p := 15) (by unfold I64; omega)))
  clear H2 HN2
  go_wp2_with fail
  refine HC3.out.mono ?_
  rintro e w4 ⟨rfl, h1, hx1⟩
  have H4 := Lib.hid (H3.out.pstep h1 hx1)
  have hc1 : ¬ PB b m c := fun e => by rcases e with e | e <;> omega
  have hc2 : ¬ PB b m (c + 1) := fun e => by rcases e with e | e <;> omega
  have HN4 := Lib.hid (HN3.out.kept hx1 hc1 hc2)
  have HC4 := Lib.hid (victim_any w4 b m H4.out.pool HS3.out)
  have HS4 := Lib.hid (victimS_ok HS3.out).1
  clear h1 hx1 H3 HN3 HC3
  go_wp2_with fail
  refine HC4.out.mono ?_
  rintro e w5 ⟨rfl, h1, hx1⟩
  have H5 := Lib.hid (H4.out.pstep h1 hx1)
  have HN5 := Lib.hid (HN4.out.kept hx1 hc1 hc2)
  have HC5 := Lib.hid (drop_any w5 b m H5.out.pool HS4.out 1 (by unfold I64; omega))
  clear h1 hx1 H4 HN4 HC4
  go_wp2_with fail
  refine HC5.out.mono ?_
  rintro e w6 ⟨rfl, h1, hx1⟩
  have H6 := Lib.hid (H5.out.pstep h1 hx1)
  have HN6 := Lib.hid (HN5.out.kept hx1 hc1 hc2)
  have HF : Hid (Done w b m r q S (.returned (.tuple #[.pointer (some ⟨c, 0, none⟩), .pointer (some ⟨r, 0, none⟩), .bool true])) w6) := Lib.hid
    ⟨c, c + 1, r, q, rfl, HN6.out, H6.out.ref, H6.out.ex, .inr hle, .inr (by omega), .inl rfl, .inl rfl⟩
  clear h1 hx1 H5 HN5 HC5 H6 HN6
  go_wp2_with fail
  go_ret3
  exact HF.out
set_option maxHeartbeats 8000000 in
theorem do_none (n1 : x.kind ≠ 1) (n2 : x.kind ≠ 2) (n3 : x.kind ≠ 3) (n4 : x.kind ≠ 4) (n5 : x.kind ≠ 5) (n6 : x.kind ≠ 6) (n7 : x.kind ≠ 7) (n8 : x.kind ≠ 8) :
    Calls Try.prog 11 #[.pointer (some ⟨b, 0, none⟩), .pointer (some ⟨r, 0, none⟩), .agg (stA x)] w (Done w b m r q S) := by
  have hT := two_start w b m r q hP hR x
  have c0 := hT.c0
  have HF := Lib.hid hT
  clear hP hR hS hx hT hK
  have k1 : (x.kind == 1) = false := by simpa using n1
  have k2 : (x.kind == 2) = false := by simpa using n2
  have k3 : (x.kind == 3) = false := by simpa using n3
  have k4 : (x.kind == 4) = false := by simpa using n4
  have k5 : (x.kind == 5) = false := by simpa using n5
  have k6 : (x.kind == 6) = false := by simpa using n6
  have k7 : (x.kind == 7) = false := by simpa using n7
  have k8 : (x.kind == 8) = false := by simpa using n8
  clear n1 n2 n3 n4 n5 n6 n7 n8
  go_enter Try.func11, Try.ntmps11
  go_upto_region 1 with fail
  generalize w.alloc (.cells (stA x) 41) = W0 at *
  go_wp2_with fail
  go_ret3
  exact HF.out.done
theorem do_any : Calls Try.prog 11 #[.pointer (some ⟨b, 0, none⟩), .pointer (some ⟨r, 0, none⟩), .agg (stA x)] w (Done w b m r q (stepS S x)) := by
  unfold stepS
  by_cases h1 : x.kind = 1
  · rw [if_pos h1]; exact do_set w b m r q hP hR hS hK x hx h1
  rw [if_neg h1]
  by_cases h2 : x.kind = 2
  · rw [if_pos h2]; exact do_get w b m r q hP hR hS hK x hx h2
  rw [if_neg h2]
  by_cases h3 : x.kind = 3
  · rw [if_pos h3]; exact do_drop w b m r q hP hR hS hK x hx h3
  rw [if_neg h3]
  by_cases h4 : x.kind = 4
  · rw [if_pos h4]; exact do_pin w b m r q hP hR hS hK x hx h4
  rw [if_neg h4]
  by_cases h5 : x.kind = 5
  · rw [if_pos h5]; exact do_unpin w b m r q hP hR hS hK x hx h5
  rw [if_neg h5]
  by_cases h6 : x.kind = 6
  · rw [if_pos h6]; exact do_victim w b m r q hP hR hS hK x hx h6
  rw [if_neg h6]
  by_cases h7 : x.kind = 7
  · rw [if_pos h7]; exact do_clear w b m r q hP hR hS hK x hx h7
  rw [if_neg h7]
  by_cases h8 : x.kind = 8
  · exact do_copy w b m r q hP hR hS hK x hx h8
  exact do_none w b m r q hP hR hS hK x hx h1 h2 h3 h4 h5 h6 h7 h8
end
end Go.Proofs.Ytjbjfpbhacpeiaa
