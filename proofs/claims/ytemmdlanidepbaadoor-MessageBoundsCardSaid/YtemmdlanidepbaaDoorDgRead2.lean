/- Contract of message.ReadDatagram. -/
import Derived.Test.YtemmdlanidepbaaDoorDgWhole
import Derived.Test.YtemmdlanidepbaaDoorDgMay
namespace Go.Proofs.YtemmdlanidepbaaDoor
open Go.RowKit
set_option linter.unusedSimpArgs false
set_option maxRecDepth 100000

/-- the datagram of bytes -/
def readD (l : List UInt8) : Option Dg := match parseD l with
  | some (d, p) => if p < l.length then none else if mayD d = true then some d else none
  | none => none
def noD : Dg := ⟨0, 0, 0, 0, 0, []⟩
/-- what is answered: a datagram, a number -/
def answerD (l : List UInt8) : Dg × Int := if 512 < l.length then (noD, 3) else match readD l with
  | some d => (d, 0)
  | none => (noD, 4)
/-- a datagram, whose body is new -/
def DgR (w : World) (r : Dg × Int) (e : Ending) (w' : World) : Prop :=
  ∃ A c, e = .returned (.tuple #[.agg (dcells r.1 A c), .int .i64 r.2]) ∧ At w' A (bv r.1.body) ∧ Hid (∀ ad, A = some ad → w.heap.size ≤ ad.block) ∧ Below w.heap.size w w'
theorem readD_results (tmps : Array Value) (w : World) (px : Nat) (cs : Array Value) (z : Int) (hp : tmps.getD 2 undef = .pointer (some ⟨px, 0, none⟩)) (hq : tmps.getD 3 undef = .int .i64 z) (hs : cs.size = 6)
    (hx : w.heap[px]? = some (.cells cs 53 (0, 0))) : (results Tryd.f24 tmps).run Tryd.prog w = .ok (.tuple #[.agg cs, .int .i64 z]) w := by
  have hp' : tmps[2]?.getD undef = .pointer (some ⟨px, 0, none⟩) := by simpa using hp
  have hq' : tmps[3]?.getD undef = .int .i64 z := by simpa using hq
  have l1 := run_loadVar_row (P := Tryd.prog) w px 53 53 cs (0, 0) _ hx Tryd.underlying53 rfl (by rw [hs]; exact infoDg)
  have h : Tryd.f24.results = #[.cell 2 53, .tmp 3] := rfl
  simp [results, h, hp', hq', asAddr, l1]
theorem readD_end {W : World} {a : Act} {px : Nat} {cs : Array Value} {z : Int} {R : Ending → World → Prop} (hp : a.tmps.getD 2 undef = .pointer (some ⟨px, 0, none⟩)) (hq : a.tmps.getD 3 undef = .int .i64 z) (hd : a.defers = []) (hs : cs.size = 6) (hx : W.heap[px]? = some (.cells cs 53 (0, 0)))
    (hR : R (.returned (.tuple #[.agg cs, .int .i64 z])) W) : bodyPost Tryd.prog Tryd.f24 R .ret a W := bodyPost_ret (v := .tuple #[.agg cs, .int .i64 z]) (readD_results a.tmps W px cs z hp hq hs hx) hd hR
theorem dgR_no {w w' : World} {z : Int} (hb : Below w.heap.size w w') : DgR w (noD, z) (.returned (.tuple #[.agg zeroDg, .int .i64 z])) w' := ⟨none, 0, rfl, At.nil _ _, fun ad e => by (cases e), hb⟩
theorem dg_cells {w : World} {g : Nat} {d : Dg} {A : Option Addr} {c : Nat} (hx : w.heap[g]? = some (.cells (dcells d A c) 53 (0, 0))) : w.cell? ⟨g, 0, none⟩ = some (.int .i64 d.fr) ∧ w.cell? ⟨g, 1, none⟩ = some (.int .i64 d.dst) ∧ w.cell? ⟨g, 2, none⟩ = some (.int .i64 d.vw) ∧
    w.cell? ⟨g, 3, none⟩ = some (.int .i64 d.sq) ∧ w.cell? ⟨g, 4, none⟩ = some (.int .i64 d.ak) ∧ w.cell? ⟨g, 5, none⟩ = some (.slice A d.body.length c) :=
  ⟨by rw [cell_of_row _ _ 0 _ _ (0, 0) hx]; rfl, by rw [cell_of_row _ _ 1 _ _ (0, 0) hx]; rfl, by rw [cell_of_row _ _ 2 _ _ (0, 0) hx]; rfl, by rw [cell_of_row _ _ 3 _ _ (0, 0) hx]; rfl, by rw [cell_of_row _ _ 4 _ _ (0, 0) hx]; rfl, by rw [cell_of_row _ _ 5 _ _ (0, 0) hx]; rfl⟩
section
variable {ops : Array Oper} {rest : List Oper} {o : Oper} {a : Act} {w : World} {Q : Exit → Act → World → Prop}
/-- a datagram is stored whole -/
theorem store_dg {cs old : Array Value} (hs : cs.size = 6) (ho6 : old.size = 6) (hall : cs.all (·.oneCell') = true) (hgd : o.guard = none) (x y : Operand) (ho : o.op = .store 53 x y) (g : Nat) (hx : a.eval x = .pointer (some ⟨g, 0, none⟩)) (hy : a.eval y = .agg cs)
    (hg : w.heap[g]? = some (.cells old 53 (0, 0))) (h : wpList Tryd.prog ops Q rest (a.put o.dst undef) (w.setRow g cs)) : wpList Tryd.prog ops Q (o :: rest) a w :=
  wpList_store_row hgd 53 x y ho g cs hx hy 53 old hg (infoDg.trans (congrArg some hs.symm)) (ho6.trans hs.symm) hall h
end
set_option maxHeartbeats 4000000 in
theorem readDg_long (A : Option Addr) (c : Nat) (l : List UInt8) (w : World) (hl : 512 < l.length) (hl2 : l.length ≤ 140737488355328) : Calls Tryd.prog 24 #[.slice A l.length c] w (DgR w (noD, 3)) := by
  have HX0 := Lib.hid (heap_alloc_new w (.cells #[.int .i64 0, .int .i64 0, .int .i64 0, .int .i64 0, .int .i64 0, .slice none 0 0] 53))
  have HB0 : Hid (Below w.heap.size w (w.alloc (.cells #[.int .i64 0, .int .i64 0, .int .i64 0, .int .i64 0, .int .i64 0, .slice none 0 0] 53))) := Lib.hid ((Below.refl _ _).alloc (Nat.le_refl _) _)
  go_enter Tryd.func24, Tryd.ntmps24
  go_wp2_with (refine store_dg rfl rfl zeroDg_all rfl (.tmp 2) (.tmp 9) rfl w.heap.size rfl rfl HX0.out ?_)
  exact readD_end (cs := zeroDg) rfl rfl rfl rfl (setRow_at HX0.out) (dgR_no (Bl.grown HB0.out (setRow_grown _ _ _) (fun k hk => by injection hk with hk; omega)))
theorem wholeD_bad_of {w w' : World} {l : List UInt8} {e : Ending} (h : parseD l = none ∨ ∃ d p, parseD l = some (d, p) ∧ p < l.length) (hw : WholeD w l e w') : WholeR w (zeroDg, 4) e w' := by
  unfold WholeD at hw
  rcases h with h | ⟨d, p, h, hlt⟩
  · rw [h] at hw; exact hw
  · rw [h] at hw; simp only at hw; rw [if_pos hlt] at hw; exact hw
set_option maxHeartbeats 4000000 in
theorem readDg_bad (A : Option Addr) (c : Nat) (l : List UInt8) (w : World) (hA : At w A (bv l)) (hl : l.length ≤ 512) (hp : parseD l = none ∨ ∃ d p, parseD l = some (d, p) ∧ p < l.length) : Calls Tryd.prog 24 #[.slice A l.length c] w (DgR w (noD, 4)) := by
  have hx0 := heap_alloc_new w (.cells #[.int .i64 0, .int .i64 0, .int .i64 0, .int .i64 0, .int .i64 0, .slice none 0 0] 53)
  have hb0 : Below w.heap.size w (w.alloc (.cells #[.int .i64 0, .int .i64 0, .int .i64 0, .int .i64 0, .int .i64 0, .slice none 0 0] 53)) := (Below.refl _ _).alloc (Nat.le_refl _) _
  have hl3 : ¬ 512 < l.length := by omega
  have HP := Lib.hid hp
  have HW := Lib.hid (wholeD_any A c l _ (hA.mono hb0) (by omega))
  have HB0 := Lib.hid hb0
  have HX0 := Lib.hid hx0
  clear hx0 hb0 hp
  go_enter Tryd.func24, Tryd.ntmps24
  go_wp2_with fail
  refine HW.out.mono ?_
  intro e w1 hw
  obtain ⟨rfl, hb⟩ := wholeD_bad_of HP.out hw
  have HX1 := Lib.hid ((hb.block w.heap.size (by simp)).trans HX0.out)
  have HB1 := Lib.hid (Bl.step HB0.out hb)
  have hx1 := (Array.getElem?_eq_some_iff.1 HX1.out).1
  clear hb hw HX0 HB0 HW
  have HX2 := Lib.hid (((Below.refl w1.heap.size w1).alloc (Nat.le_refl _) (.cells zeroDg 53)).block _ hx1 |>.trans HX1.out)
  have HB2 := Lib.hid (HB1.out.alloc HB1.out.size (.cells zeroDg 53))
  go_upto_region 4 with (refine store_dg (cs := zeroDg) rfl rfl zeroDg_all rfl (.tmp 4) (.tmp 13) rfl w1.heap.size rfl rfl (heap_alloc_new w1 _) ?_; rw [World.setRow_alloc_new])
  generalize w1.alloc (.cells zeroDg 53) = w2 at *
  go_wp2_with (refine store_dg (cs := zeroDg) rfl rfl zeroDg_all rfl (.tmp 2) (.tmp 22) rfl w.heap.size rfl rfl HX2.out ?_)
  exact readD_end (cs := zeroDg) rfl rfl rfl rfl (setRow_at HX2.out) (dgR_no (Bl.grown HB2.out (setRow_grown _ _ _) (fun k hk => by injection hk with hk; omega)))
theorem wholeD_good_of {w w' : World} {l : List UInt8} {e : Ending} {d : Dg} {p : Nat} (h : parseD l = some (d, p)) (hlt : ¬ p < l.length) (hw : WholeD w l e w') :
    ∃ b c', WholeR w (dcells d (some ⟨b, 0, none⟩) c', 0) e w' ∧ w'.ownsRow w.heap.size 5 1 (.slice (some ⟨b, 0, none⟩) d.body.length c') d.body.length (bv d.body) := by
  unfold WholeD at hw
  rw [h] at hw
  simp only at hw
  rw [if_neg hlt] at hw
  exact hw
/-- of one that was read whole -/
def ansD (d : Dg) : Dg × Int := if mayD d = true then (d, 0) else (noD, 4)
set_option maxHeartbeats 8000000 in
theorem readDg_full (A : Option Addr) (c : Nat) (l : List UInt8) (w : World) (hA : At w A (bv l)) (hl : l.length ≤ 512) (d : Dg) (p : Nat) (hp : parseD l = some (d, p)) (hlt : ¬ p < l.length) (hbl : d.body.length ≤ 256) : Calls Tryd.prog 24 #[.slice A l.length c] w (DgR w (ansD d)) := by
  have hx0 := heap_alloc_new w (.cells #[.int .i64 0, .int .i64 0, .int .i64 0, .int .i64 0, .int .i64 0, .slice none 0 0] 53)
  have hb0 : Below w.heap.size w (w.alloc (.cells #[.int .i64 0, .int .i64 0, .int .i64 0, .int .i64 0, .int .i64 0, .slice none 0 0] 53)) := (Below.refl _ _).alloc (Nat.le_refl _) _
  have hl3 : ¬ 512 < l.length := by omega
  have HW := Lib.hid (wholeD_any A c l _ (hA.mono hb0) (by omega))
  have HP := Lib.hid hp
  have HLT := Lib.hid hlt
  have HB0 := Lib.hid hb0
  have HX0 := Lib.hid hx0
  clear hx0 hb0 hp hlt
  go_enter Tryd.func24, Tryd.ntmps24
  go_wp2_with fail
  refine HW.out.mono ?_
  intro e w1 hw
  obtain ⟨b, cb, ⟨rfl, hb⟩, ho⟩ := wholeD_good_of HP.out HLT.out hw
  clear hw
  have HX1 := Lib.hid ((hb.block w.heap.size (by simp)).trans HX0.out)
  have HB1 := Lib.hid (Bl.step HB0.out hb)
  have hx1 := (Array.getElem?_eq_some_iff.1 HX1.out).1
  have HO1 := Lib.hid (own_lower ho (Nat.le_of_lt (show w.heap.size < _ by simp)))
  have hgb : w.heap.size < b := by
    have := (ho.lt b rfl).1
    simp at this
    omega
  clear hb ho HX0 HB0 HW
  have hba := (Below.refl w1.heap.size w1).alloc (Nat.le_refl _) (.cells (dcells d (some ⟨b, 0, none⟩) cb) 53)
  have HX2 := Lib.hid (hba.block _ hx1 |>.trans HX1.out)
  have HY2 := Lib.hid (heap_alloc_new w1 (.cells (dcells d (some ⟨b, 0, none⟩) cb) 53))
  have HB2 := Lib.hid (Bl.step HB1.out hba)
  have HO2 := Lib.hid (own_below HO1.out hba)
  clear hba
  go_upto_region 4 with (refine store_dg (dcells_size d (some ⟨b, 0, none⟩) cb) rfl (dcells_all _ _ _) rfl (.tmp 4) (.tmp 13) rfl w1.heap.size rfl rfl (heap_alloc_new w1 _) ?_; rw [World.setRow_alloc_new])
  generalize w1.alloc (.cells (dcells d (some ⟨b, 0, none⟩) cb) 53) = w2 at *
  generalize w1.heap.size = g4 at *
  have hx2 := (Array.getElem?_eq_some_iff.1 HX2.out).1
  have hy2 := (Array.getElem?_eq_some_iff.1 HY2.out).1
  have HMD := Lib.hid (fun u => mayD_walk d (some ⟨b, 0, none⟩) cb u (by omega))
  cases hy : mayD d with
  | false =>
    rw [hy] at HMD
    have HIF : Hid (ansD d = (noD, 4)) := Lib.hid (by unfold ansD; rw [hy]; rfl)
    clear hy
    obtain ⟨q0, q1, q2, q3, q4, q5⟩ := dg_cells HY2.out
    unfold dcells at HMD
    go_wp2_with fail
    refine (HMD.out _).mono ?_
    clear q0 q1 q2 q3 q4 q5
    rintro e w3 ⟨rfl, hb3⟩
    have HX3 := Lib.hid ((hb3.block _ hx2).trans HX2.out)
    have HB3 := Lib.hid (Bl.step HB2.out hb3)
    clear hb3
    go_wp2_with (refine store_dg (cs := zeroDg) rfl rfl zeroDg_all rfl (.tmp 2) (.tmp 22) rfl w.heap.size rfl rfl HX3.out ?_)
    rw [HIF.out]
    exact readD_end (cs := zeroDg) rfl rfl rfl rfl (setRow_at HX3.out) (dgR_no (Bl.grown HB3.out (setRow_grown w3 w.heap.size zeroDg) (fun k hk => by injection hk with hk; omega)))
  | true =>
    rw [hy] at HMD
    have HIF : Hid (ansD d = (d, 0)) := Lib.hid (by unfold ansD; rw [hy]; rfl)
    clear hy
    obtain ⟨q0, q1, q2, q3, q4, q5⟩ := dg_cells HY2.out
    unfold dcells at HMD
    go_wp2_with fail
    refine (HMD.out _).mono ?_
    clear q0 q1 q2 q3 q4 q5
    rintro e w3 ⟨rfl, hb3⟩
    have HX3 := Lib.hid ((hb3.block _ hx2).trans HX2.out)
    have HY3 := Lib.hid ((hb3.block _ hy2).trans HY2.out)
    have HB3 := Lib.hid (Bl.step HB2.out hb3)
    have HO3 := Lib.hid (own_below HO2.out hb3)
    clear hb3
    go_wp2_with (first | (refine load_dg (dcells_size _ _ _) rfl (.tmp 4) rfl g4 rfl HY3.out ?_) | (refine store_dg (dcells_size d (some ⟨b, 0, none⟩) cb) rfl (dcells_all _ _ _) rfl (.tmp 2) (.tmp 23) rfl w.heap.size rfl rfl HX3.out ?_))
    have hgr := setRow_grown w3 w.heap.size (dcells d (some ⟨b, 0, none⟩) cb)
    rw [HIF.out]
    refine readD_end (cs := dcells d (some ⟨b, 0, none⟩) cb) rfl rfl rfl rfl (setRow_at HX3.out) ?_

    exact ⟨_, cb, rfl, (own_at HO3.out).grown hgr (fun ad e => by injection e with e; rw [← e]; intro h; injection h with h; exact absurd h (Nat.ne_of_gt hgb)), fun ad e => by (injection e with e; subst e; exact Nat.le_of_lt hgb), Bl.grown HB3.out hgr (fun k hk => by injection hk with hk; omega)⟩
theorem parseD_body {l : List UInt8} {d : Dg} {p : Nat} (h : parseD l = some (d, p)) : d.body.length ≤ 256 := by
  unfold parseD at h
  repeat' split at h
  all_goals try (cases h; done)
  rename_i body p6 hb
  injection h with h
  injection h with h _
  subst h
  unfold rdB256 at hb
  split at hb
  · cases hb
  · split at hb
    · rename_i hx
      injection hb with hb
      injection hb with hb _
      subst hb
      simp only [List.length_take]
      omega
    · cases hb
theorem msg_readD (A : Option Addr) (c : Nat) (l : List UInt8) (w : World) (hA : At w A (bv l)) (hl : l.length ≤ 140737488355328) : Calls Tryd.prog 24 #[.slice A l.length c] w (DgR w (answerD l)) := by
  by_cases h : 512 < l.length
  · have e : answerD l = (noD, 3) := by unfold answerD; rw [if_pos h]
    rw [e]
    exact readDg_long A c l w h hl
  · have h' : l.length ≤ 512 := by omega
    cases hp : parseD l with
    | none =>
      have e : answerD l = (noD, 4) := by unfold answerD readD; rw [if_neg h, hp]
      rw [e]
      exact readDg_bad A c l w hA h' (.inl hp)
    | some r =>
      obtain ⟨d, p⟩ := r
      by_cases hlt : p < l.length
      · have e : answerD l = (noD, 4) := by unfold answerD readD; rw [if_neg h, hp]; simp [hlt]
        rw [e]
        exact readDg_bad A c l w hA h' (.inr ⟨d, p, hp, hlt⟩)
      · have e : answerD l = ansD d := by
          unfold ansD
          unfold answerD readD
          rw [if_neg h, hp]
          cases hm : mayD d <;> simp [hlt, hm]
        rw [e]
        exact readDg_full A c l w hA h' d p hp hlt (parseD_body hp)
end Go.Proofs.YtemmdlanidepbaaDoor
