/- Contract of millpondref01.Reader's Bytes. -/
import Derived.Test.YtemmdlanidepbaaDoorRef2
namespace Go.Proofs.YtemmdlanidepbaaDoor
open Go.RowKit
set_option linter.unusedSimpArgs false

section
variable (w : World) (g : Nat) (A : Option Addr) (c : Nat) (l : List UInt8) (pos : Nat) (h : RRdr w g A c l pos)
include h
theorem rrBytes_no (most : Int) (hd : dec 0 0 (l.drop pos) = none) :
    Calls Tryd.prog 61 #[.pointer (some ⟨g, 0, none⟩), .int .i64 most] w (RRd2 w g A c l pos (.slice none 0 0) (.int .i64 4)) := by
  have HN := Lib.hid (rrNumber_no _ _ _ _ _ _ h hd)
  clear hd
  have h1 := h.cell1
  go_enter Tryd.func61, Tryd.ntmps61
  go_wp2_with fail
  refine HN.out.mono ?_
  rintro e w1 ⟨rfl, hr, hg⟩
  have g1 := hr.cell1
  have gf := hr.free 1
  go_wp2_with fail
  go_ret2
  have := hr.back w hg pos h.pos_le
  exact ⟨rfl, this.1, this.2⟩
theorem rrBytes_long (most : Int) (hm : 0 ≤ most) (hm2 : most ≤ 9223372036854775807) {x k : Nat} (hd : dec 0 0 (l.drop pos) = some (x, k)) (hx : most < (x : Int)) :
    Calls Tryd.prog 61 #[.pointer (some ⟨g, 0, none⟩), .int .i64 most] w (RRd2 w g A c l pos (.slice none 0 0) (.int .i64 3)) := by
  have HN := Lib.hid (rrNumber_ok _ _ _ _ _ _ h hd)
  clear hd
  have h1 := h.cell1
  have hw : IntKind.u64.wrap most = most := by rw [IntKind.wrap_u64]; omega
  go_enter Tryd.func61, Tryd.ntmps61
  go_wp2_with fail
  refine HN.out.mono ?_
  rintro e w1 ⟨rfl, hr, hg⟩
  have g1 := hr.cell1
  have gf := hr.free 1
  go_wp2_with fail
  go_ret2
  have := hr.back w hg pos h.pos_le
  exact ⟨rfl, this.1, this.2⟩
theorem rrBytes_short (most : Int) (hm2 : most ≤ 9223372036854775807) {x k : Nat} (hd : dec 0 0 (l.drop pos) = some (x, k)) (hx : (x : Int) ≤ most) (hs : l.length < pos + k + x) :
    Calls Tryd.prog 61 #[.pointer (some ⟨g, 0, none⟩), .int .i64 most] w (RRd2 w g A c l pos (.slice none 0 0) (.int .i64 4)) := by
  have HN := Lib.hid (rrNumber_ok _ _ _ _ _ _ h hd)
  have hk := (dec_fits _ _ _ (by omega) (by simp) _ _ hd).2.1
  rw [List.length_drop] at hk
  clear hd
  have h1 := h.cell1
  have hp := h.pos_le
  have hlen := h.len
  have hm : 0 ≤ most := by omega
  have hw : IntKind.u64.wrap most = most := by rw [IntKind.wrap_u64]; omega
  have e1 : decide (l.length - (pos + k) < x) = true := by simp; omega
  go_enter Tryd.func61, Tryd.ntmps61
  go_wp2_with fail
  refine HN.out.mono ?_
  rintro e w1 ⟨rfl, hr, hg⟩
  have g1 := hr.cell1
  have gf := hr.free 1
  go_wp2_with fail
  refine (refLeft _ _ _ _ _ _ hr).mono ?_
  rintro e w' ⟨rfl, n, rfl⟩
  have hw2 : IntKind.u64.wrap ((l.length - (pos + k) : Nat) : Int) = ((l.length - (pos + k) : Nat) : Int) := by rw [IntKind.wrap_u64]; omega
  go_wp2_with fail
  go_ret2
  have := (hr.drewN n).back w (grown_trans hg (grown_drewN _ n (some g)) (.inl rfl)) pos h.pos_le
  exact ⟨rfl, this.1, this.2⟩
end
/-- bytes in a row of the call's own (nil where there are none), and a reader (block g) that stands at pos -/
def RBytesRead (w : World) (g : Nat) (A : Option Addr) (c : Nat) (l : List UInt8) (pos : Nat) (news : List UInt8) (e : Ending) (w' : World) : Prop :=
  ∃ v, e = .returned (.tuple #[v, .int .i64 0]) ∧ w'.ownsRow w.heap.size 5 1 v news.length (bv news) ∧ RRdr w' g A c l pos ∧ w.grownBy w' (some g)
theorem At.cutO {w : World} {A : Option Addr} {c : Nat} {cs : List Value} (h : At w A cs) (lo hi : Nat) : At w (if c = lo then A else A.map (·.add lo)) ((cs.take hi).drop lo) ∨ hi ≤ lo ∨ c ≤ lo := by
  by_cases h1 : hi ≤ lo ∨ c ≤ lo
  · exact .inr h1
  · refine .inl fun j u hj => ?_
    have hj' : cs[lo + j]? = some u := by
      rw [List.getElem?_drop, List.getElem?_take] at hj
      split at hj
      · exact hj
      · cases hj
    obtain ⟨ad', e, hc⟩ := h _ _ hj'
    subst e
    rw [if_neg (by omega)]
    exact ⟨_, rfl, by rw [add_add]; exact hc⟩
theorem RRdr.cut {W : World} {g : Nat} {A : Option Addr} {c : Nat} {l : List UInt8} {pos : Nat} (h : RRdr W g A c l pos) (lo hi : Nat) : At W.drew (if c = lo then A else A.map (·.add lo)) (bv ((l.take hi).drop lo)) := by
  rcases (h.drewN 1).bytes.cutO (c := c) lo hi with h1 | h1
  · rw [bv_cut]
    exact h1
  · have hc := h.cap
    rw [List.drop_eq_nil_of_le (by rw [List.length_take]; omega)]
    exact At.nil _ _
theorem rbytes_of {w W w' : World} {g : Nat} {A : Option Addr} {c : Nat} {l : List UInt8} {pos k x q r : Nat} {v : Value} (hr : RRdr W g A c l (pos + k + x)) (hg : w.grownBy W (some g)) (hq : q = pos + k) (hrr : r = pos + k + x)
    (ho : w'.ownsRow W.heap.size 5 1 v (0 + (r - q)) ([] ++ bv ((l.take r).drop q))) (hn : W.grownBy w' none) :
    RBytesRead w g A c l (pos + k + x) ((l.drop (pos + k)).take x) (.returned (.tuple #[v, .int .i64 0])) w' := by
  subst hq
  subst hrr
  have e : (l.take (pos + k + x)).drop (pos + k) = (l.drop (pos + k)).take x := by rw [List.drop_take]; congr 1; omega
  have hx : ((l.drop (pos + k)).take x).length = x := by rw [List.length_take, List.length_drop]; have := hr.pos_le; omega
  have e2 : 0 + (pos + k + x - (pos + k)) = x := by omega
  rw [e, e2, List.nil_append] at ho
  exact ⟨v, rfl, by rw [hx]; exact own_lower ho hg.size, hr.move hn (by simp) (by simp), grown_trans hg (grown_of_below (below_of_grown hn) (some g)) (.inl rfl)⟩
section
variable (w : World) (g : Nat) (A : Option Addr) (c : Nat) (l : List UInt8) (pos : Nat) (h : RRdr w g A c l pos)
include h
set_option maxRecDepth 100000 in
theorem rrBytes_ok (most : Int) (hm2 : most ≤ 9223372036854775807) {x k : Nat} (hd : dec 0 0 (l.drop pos) = some (x, k)) (hx : (x : Int) ≤ most) (hs : pos + k + x ≤ l.length) :
    Calls Tryd.prog 61 #[.pointer (some ⟨g, 0, none⟩), .int .i64 most] w (RBytesRead w g A c l (pos + k + x) ((l.drop (pos + k)).take x)) := by
  have HN := Lib.hid (rrNumber_ok _ _ _ _ _ _ h hd)
  have hk := (dec_fits _ _ _ (by omega) (by simp) _ _ hd).2.1
  rw [List.length_drop] at hk
  clear hd
  have h1 := h.cell1
  have hp := h.pos_le
  have hlen := h.len
  have hm : 0 ≤ most := by omega
  have hw : IntKind.u64.wrap most = most := by rw [IntKind.wrap_u64]; omega
  have e1 : decide (l.length - (pos + k) < x) = false := by simp; omega
  go_enter Tryd.func61, Tryd.ntmps61
  go_wp2_with fail
  refine HN.out.mono ?_
  rintro e w1 ⟨rfl, hr, hg⟩
  have g1 := hr.cell1
  have gf := hr.free 1
  go_wp2_with fail
  refine (refLeft _ _ _ _ _ _ hr).mono ?_
  rintro e w' ⟨rfl, n, rfl⟩
  have hw2 : IntKind.u64.wrap ((l.length - (pos + k) : Nat) : Int) = ((l.length - (pos + k) : Nat) : Int) := by rw [IntKind.wrap_u64]; omega
  have hw3 : IntKind.i64.wrap (x : Int) = x := IntWalk.i64_in _ (by omega)
  go_wp2_with fail
  have HR := (hr.drewN n).back w (grown_trans hg (grown_drewN _ n (some g)) (.inl rfl)) (pos + k + x) hs
  rw [show ((pos + k + x : Nat) : Int) = (pos : Int) + k + x by omega] at HR
  generalize (w1.drewN n).setCell ⟨g, 1, none⟩ (.int .i64 ((pos : Int) + k + x)) = W at HR ⊢
  clear hr hg g1 gf HN h1 e1 hw hw2
  have h0 := HR.1.cell0
  have h1 := HR.1.cell1
  have Hr := Lib.hid HR.1
  have Hg := Lib.hid HR.2
  clear HR h
  have hcap := Hr.out.cap
  obtain ⟨q, hq⟩ : ∃ q, q = pos + k := ⟨_, rfl⟩
  obtain ⟨r, hrr⟩ : ∃ r, r = pos + k + x := ⟨_, rfl⟩
  rw [← hrr] at h1
  have hw : IntKind.i64.wrap ((r : Int) - x) = q := (IntWalk.i64_in _ (by omega)).trans (by omega)
  have b0 : (0 : Int) ≤ (q : Int) := by omega
  have b1 : (q : Int) ≤ (r : Int) := by omega
  have b2 : (r : Int) ≤ (c : Int) := by omega
  have Hq := Lib.hid hq
  have Hrr := Lib.hid hrr
  clear hq hrr
  have U : Up (fun _ => False) W.drew (fun u => u.cell? ⟨g, 0, none⟩ = some (.slice A l.length c) ∧ u.cell? ⟨g, 1, none⟩ = some (.int .i64 (r : Int))) :=
    Up.later ((Up.cell h0 id).and (Up.cell h1 id)) (Ex.drewN _ W 1)
  clear h0 h1
  refine wp_region_seq (fun _ => False) [] [(0, true), (1, true), (2, true), (3, true), (4, true), (5, true), (6, true), (7, true), (8, true), (9, true), (10, true), (11, true), (12, true), (13, true), (14, true), (15, true), (16, false), (17, true), (18, true)] (by kernel_rfl) (by kernel_rfl) (fun _ _ d _ _ h => by cases d <;> exact h) rfl (by kernel_rfl) ?_
  refine seq_at (some 52) (v := ?_) rfl (by kernel_rfl) (by kernel_rfl) ?_ ?_
  rotate_left
  · intro w' hw'
    obtain ⟨q0, q1⟩ := U w' hw'
    go_simp
    try with_reducible rfl
  simp only [Act.put, List.setIfInBounds_toArray, List.set_cons_zero, List.set_cons_succ]
  refine seq_at (some 53) (v := ?_) rfl (by kernel_rfl) (by kernel_rfl) ?_ ?_
  rotate_left
  · intro w' hw'
    obtain ⟨q0, q1⟩ := U w' hw'
    go_simp
    try with_reducible rfl
  simp only [Act.put, List.setIfInBounds_toArray, List.set_cons_zero, List.set_cons_succ]
  refine seq_at (some 54) (v := ?_) rfl (by kernel_rfl) (by kernel_rfl) ?_ ?_
  rotate_left
  · intro w' hw'
    obtain ⟨q0, q1⟩ := U w' hw'
    go_simp
    try with_reducible rfl
  simp only [Act.put, List.setIfInBounds_toArray, List.set_cons_zero, List.set_cons_succ]
  refine seq_at (some 55) (v := ?_) rfl (by kernel_rfl) (by kernel_rfl) ?_ ?_
  rotate_left
  · intro w' hw'
    obtain ⟨q0, q1⟩ := U w' hw'
    go_simp
    try with_reducible rfl
  simp only [Act.put, List.setIfInBounds_toArray, List.set_cons_zero, List.set_cons_succ]
  refine seq_at (some 56) (v := ?_) rfl (by kernel_rfl) (by kernel_rfl) ?_ ?_
  rotate_left
  · intro w' hw'
    obtain ⟨q0, q1⟩ := U w' hw'
    go_simp
    try with_reducible rfl
  simp only [Act.put, List.setIfInBounds_toArray, List.set_cons_zero, List.set_cons_succ]
  refine seq_at (some 57) (v := ?_) rfl (by kernel_rfl) (by kernel_rfl) ?_ ?_
  rotate_left
  · intro w' hw'
    obtain ⟨q0, q1⟩ := U w' hw'
    go_simp
    try with_reducible rfl
  simp only [Act.put, List.setIfInBounds_toArray, List.set_cons_zero, List.set_cons_succ]
  refine seq_at (some 58) (v := ?_) rfl (by kernel_rfl) (by kernel_rfl) ?_ ?_
  rotate_left
  · intro w' hw'
    obtain ⟨q0, q1⟩ := U w' hw'
    go_simp
    try with_reducible rfl
  simp only [Act.put, List.setIfInBounds_toArray, List.set_cons_zero, List.set_cons_succ]
  refine seq_at (some 59) (v := ?_) rfl (by kernel_rfl) (by kernel_rfl) ?_ ?_
  rotate_left
  · intro w' hw'
    obtain ⟨q0, q1⟩ := U w' hw'
    go_simp
    try with_reducible rfl
  simp only [Act.put, List.setIfInBounds_toArray, List.set_cons_zero, List.set_cons_succ]
  refine seq_at (some 60) (v := ?_) rfl (by kernel_rfl) (by kernel_rfl) ?_ ?_
  rotate_left
  · intro w' hw'
    obtain ⟨q0, q1⟩ := U w' hw'
    go_simp
    try with_reducible rfl
  simp only [Act.put, List.setIfInBounds_toArray, List.set_cons_zero, List.set_cons_succ]
  refine seq_at (some 61) (v := ?_) rfl (by kernel_rfl) (by kernel_rfl) ?_ ?_
  rotate_left
  · intro w' hw'
    obtain ⟨q0, q1⟩ := U w' hw'
    go_simp
    try with_reducible rfl
  simp only [Act.put, List.setIfInBounds_toArray, List.set_cons_zero, List.set_cons_succ]
  refine seq_at (some 62) (v := ?_) rfl (by kernel_rfl) (by kernel_rfl) ?_ ?_
  rotate_left
  · intro w' hw'
    obtain ⟨q0, q1⟩ := U w' hw'
    go_simp
    try with_reducible rfl
  simp only [Act.put, List.setIfInBounds_toArray, List.set_cons_zero, List.set_cons_succ]
  refine seq_at (some 63) (v := ?_) rfl (by kernel_rfl) (by kernel_rfl) ?_ ?_
  rotate_left
  · intro w' hw'
    obtain ⟨q0, q1⟩ := U w' hw'
    go_simp
    try with_reducible rfl
  simp only [Act.put, List.setIfInBounds_toArray, List.set_cons_zero, List.set_cons_succ]
  refine seq_at (some 64) (v := ?_) rfl (by kernel_rfl) (by kernel_rfl) ?_ ?_
  rotate_left
  · intro w' hw'
    obtain ⟨q0, q1⟩ := U w' hw'
    go_simp
    try with_reducible rfl
  simp only [Act.put, List.setIfInBounds_toArray, List.set_cons_zero, List.set_cons_succ]
  refine seq_at (some 65) (v := ?_) rfl (by kernel_rfl) (by kernel_rfl) ?_ ?_
  rotate_left
  · intro w' hw'
    obtain ⟨q0, q1⟩ := U w' hw'
    go_simp
    try with_reducible rfl
  simp only [Act.put, List.setIfInBounds_toArray, List.set_cons_zero, List.set_cons_succ]
  refine seq_at (some 66) (v := ?_) rfl (by kernel_rfl) (by kernel_rfl) ?_ ?_
  rotate_left
  · intro w' hw'
    obtain ⟨q0, q1⟩ := U w' hw'
    go_simp
    try with_reducible rfl
  simp only [Act.put, List.setIfInBounds_toArray, List.set_cons_zero, List.set_cons_succ]
  refine seq_at (some 67) (v := ?_) rfl (by kernel_rfl) (by kernel_rfl) ?_ ?_
  rotate_left
  · intro w' hw'
    obtain ⟨q0, q1⟩ := U w' hw'
    go_simp
    try with_reducible rfl
  simp only [Act.put, List.setIfInBounds_toArray, List.set_cons_zero, List.set_cons_succ]
  refine seq_eff rfl (by kernel_rfl) (fun K hK => ?_)
  refine wp_app_rows _ _ _ 28 rfl W.heap.size 5 (.int .u8 0) 1 1 Tryd.underlying28 infoU8 rfl (by omega) (.slice none 0 0) 0 [] rfl (World.ownsRow_nil _ _ _ _) _ (r - q) _ (bv ((l.take r).drop q)) rfl ?zl (Hr.out.cut q r) (bv_one _) ?zm ?zb (Nat.le_refl _) ?_
  case zl => have e1 := Hq.out; have e2 := Hrr.out; rw [bv_len, List.length_drop, List.length_take]; omega
  case zm => have e1 := Hq.out; have e2 := Hrr.out; simp only [maxLen]; omega
  case zb => have e1 := Hq.out; have e2 := Hrr.out; omega
  intro v x2 ho hg hv
  show K (Act.put _ (some 68) v) x2
  have hgn : W.grownBy x2 none := ⟨hg.os, hg.tape, hg.output, hg.size, hg.block⟩
  refine hK.out _ _ (.inl (Ex.below (below_of_grown hg))) ?_
  try simp only [Act.put, List.setIfInBounds_toArray, List.set_cons_zero, List.set_cons_succ]
  clear hK
  refine seq_at (some 4) (v := ?_) rfl (by kernel_rfl) (by kernel_rfl) ?_ ?_
  rotate_left
  · intro w' hw'
    go_simp
    try with_reducible rfl
  simp only [Act.put, List.setIfInBounds_toArray, List.set_cons_zero, List.set_cons_succ]
  refine seq_at (some 5) (v := ?_) rfl (by kernel_rfl) (by kernel_rfl) ?_ ?_
  rotate_left
  · intro w' hw'
    go_simp
    try with_reducible rfl
  simp only [Act.put, List.setIfInBounds_toArray, List.set_cons_zero, List.set_cons_succ]
  refine seq_nil ?_
  go_wp2_with fail
  · have hcq : c = q := by assumption
    subst hcq
    go_ret2
    exact rbytes_of Hr.out Hg.out Hq.out Hrr.out ho hgn
  · go_ret2
    exact rbytes_of Hr.out Hg.out Hq.out Hrr.out ho hgn
end
end Go.Proofs.YtemmdlanidepbaaDoor
