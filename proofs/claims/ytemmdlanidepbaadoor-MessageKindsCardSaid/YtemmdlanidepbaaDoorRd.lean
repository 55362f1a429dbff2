/- Contracts of wire.Reader: Open, there, Left, End. -/
import Derived.Test.YtemmdlanidepbaaDoorJoin
namespace Go.Proofs.YtemmdlanidepbaaDoor
open Go.RowKit

/-- block g is a reader of wire's over the bytes l, at 'pos' -/
structure Rdr (w : World) (g : Nat) (ad : Addr) (c : Nat) (l : List UInt8) (pos : Nat) : Prop where
  blk : w.heap[g]? = some (.cells #[.slice (some ad) l.length c, .int .i64 (pos : Int)] 125 (0, 0))
  bytes : At w (some ad) (bv l)
  pos_le : pos ≤ l.length
  len : l.length ≤ 140737488355328
  cap : l.length ≤ c
  apart : ad.block ≠ g

section
variable {w : World} {g : Nat} {ad : Addr} {c : Nat} {l : List UInt8} {pos : Nat}
theorem Rdr.cell0 (h : Rdr w g ad c l pos) : w.cell? ⟨g, 0, none⟩ = some (.slice (some ad) l.length c) := by simp [World.cell?, h.blk]
theorem Rdr.cell1 (h : Rdr w g ad c l pos) : w.cell? ⟨g, 1, none⟩ = some (.int .i64 (pos : Int)) := by simp [World.cell?, h.blk]
theorem Rdr.free (h : Rdr w g ad c l pos) (i : Nat) : w.frozen? ⟨g, i, none⟩ = false := by simp [World.frozen?, h.blk]
theorem Rdr.lt (h : Rdr w g ad c l pos) : g < w.heap.size := (Array.getElem?_eq_some_iff.1 h.blk).1
/-- behind a store of another place -/
theorem Rdr.set (h : Rdr w g ad c l pos) (p : Nat) (hp : p ≤ l.length) : Rdr (w.setCell ⟨g, 1, none⟩ (.int .i64 (p : Int))) g ad c l p := by
  refine ⟨?_, fun j u hj => ?_, hp, h.len, h.cap, h.apart⟩
  · simp only [World.setCell, Array.getElem?_modify, if_true, h.blk, Option.map_some]
    simp
  · obtain ⟨ad', e, hc⟩ := h.bytes j u hj
    refine ⟨ad', e, ?_⟩
    injection e with e
    subst e
    rw [World.cell?_of_block (w := w) (Below.heap_setCell _ _ _ _ (by rw [add_block]; exact h.apart))]
    exact hc
theorem Rdr.drewN (h : Rdr w g ad c l pos) (n : Nat) : Rdr (w.drewN n) g ad c l pos := ⟨h.blk, h.bytes, h.pos_le, h.len, h.cap, h.apart⟩
theorem At.lt {cs : List Value} (h : At w (some ad) cs) (hn : 0 < cs.length) : ad.block < w.heap.size := by
  obtain ⟨ad', e, hc⟩ := h 0 _ (List.getElem?_eq_getElem hn)
  injection e with e
  subst e
  have := World.block_lt_of_cell? w _ hc
  rwa [add_block] at this
/-- where its two blocks have not turned -/
theorem Rdr.move {w1 : World} (h : Rdr w g ad c l pos) {row : Option Nat} (hg : w.grownBy w1 row) (h1 : some g ≠ row) (h2 : some ad.block ≠ row) : Rdr w1 g ad c l pos :=
  ⟨(hg.block g h.lt h1).trans h.blk, h.bytes.grown hg (fun ad' e => by injection e with e; subst e; exact h2), h.pos_le, h.len, h.cap, h.apart⟩
theorem Rdr.below {w1 : World} (h : Rdr w g ad c l pos) (hb : Below w.heap.size w w1) : Rdr w1 g ad c l pos := h.move (grown_of_below hb none) (by simp) (by simp)
end

theorem there_yes (w : World) (g : Nat) (ad : Addr) (n c : Nat) (h0 : w.cell? ⟨g, 0, none⟩ = some (.slice (some ad) n c)) : Calls Tryd.prog 76 #[.pointer (some ⟨g, 0, none⟩)] w (fun e w' => e = .returned (.bool true) ∧ w = w') := by
  go_enter Tryd.func76, Tryd.ntmps76
  go_wp2
  go_ret
  exact ⟨rfl, rfl⟩

/-- a new reader over these bytes -/
def Opened (w : World) (l : List UInt8) (e : Ending) (w' : World) : Prop :=
  ∃ g ad c', e = .returned (.pointer (some ⟨g, 0, none⟩)) ∧ Rdr w' g ad c' l 0 ∧ w.heap.size ≤ g ∧ w.heap.size ≤ ad.block ∧ Below w.heap.size w w'

theorem opened_of {w w2 : World} {l : List UInt8} {g c : Nat} (ho : w2.ownsRow w.heap.size 5 1 (.slice (some ⟨g, 0, none⟩) (0 + l.length) c) (0 + l.length) ([] ++ bv l)) (hb : Below w.heap.size w w2) (hl : l.length ≤ 140737488355320) :
    Opened w l (.returned (.pointer (some ⟨w2.heap.size, 0, none⟩))) (w2.alloc (.cells #[.slice (some ⟨g, 0, none⟩) (0 + l.length) c, .int .i64 0] 125)) := by
  simp only [Nat.zero_add, List.nil_append] at ho ⊢
  have hlt := ho.lt g rfl
  have hA := own_at ho
  obtain ⟨A', c1, e1, hc⟩ := own_form ho
  injection e1 with e1 _ e2
  subst e1
  subst e2
  exact ⟨w2.heap.size, ⟨g, 0, none⟩, c, rfl, ⟨heap_alloc_new _ _, hA.mono ((Below.refl _ _).alloc (Nat.le_refl _) _), Nat.zero_le _, by omega, hc, by show g ≠ _; omega⟩, hb.size, hlt.1, hb.alloc hb.size _⟩

theorem open_any (A : Option Addr) (c : Nat) (l : List UInt8) (w : World) (hA : At w A (bv l)) (hl : l.length ≤ 140737488355320) :
    Calls Tryd.prog 71 #[.slice A l.length c] w (Opened w l) := by
  obtain ⟨i0, hi, hz0, hz1, hz2⟩ := info_parts infoU8
  go_enter Tryd.func71, Tryd.ntmps71
  go_wp2_with (first | (at_make; refine wpList_make_own w rfl _ _ 28 rfl w.heap.size 5 i0 (.int .u8 0) 1 Tryd.underlying28 hi hz0 hz1 .i64 .i64 _ (l.length + 1) rfl rfl (by omega) (by rw [hz2]; omega) (by simp only [maxLen]; omega) (Nat.le_refl _) ?_; intro w1 ho1 hg1) | (at_builtin; refine app_rows w1 rfl _ _ 28 rfl w.heap.size 5 (.int .u8 0) 1 1 Tryd.underlying28 infoU8 rfl (by omega) (.slice (some ⟨w.heap.size, 0, none⟩) 0 (l.length + 1)) 0 [] rfl ho1 A l.length c (bv l) rfl (by simp [bv_len]) (hA.mono (below_of_grown hg1)) (bv_one _) (by simp only [maxLen]; omega) (by omega) hg1.size ?_; intro v' w2 ho2 hg2 hv2; obtain ⟨g, cc, rfl⟩ := own_some ho2 (isSome_of rfl hv2); have hb2 := Lib.hid (Bl.grown (below_of_grown hg1) hg2 (fun k hk => (ho1.lt k hk).1)); clear hg2 hv2 hg1 ho1; have Ho := Lib.hid ho2; clear ho2))
  go_ret
  have := opened_of Ho.out hb2.out hl
  rw [Nat.zero_add] at this
  exact this

theorem left_yes (w : World) (g : Nat) (ad : Addr) (c : Nat) (l : List UInt8) (pos : Nat) (h : Rdr w g ad c l pos) :
    Calls Tryd.prog 77 #[.pointer (some ⟨g, 0, none⟩)] w (fun e w' => e = .returned (.int .i64 ((l.length - pos : Nat) : Int)) ∧ ∃ n, w' = w.drewN n) := by
  have h0 := h.cell0
  have h1 := h.cell1
  have hp := h.pos_le
  have hl := h.len
  have e1 := Lib.hid (show ((l.length : Int) - pos) = ((l.length - pos : Nat) : Int) by omega)
  go_enter Tryd.func77, Tryd.ntmps77
  go_wp2_with fail
  refine (there_yes _ _ _ _ _ h0).mono ?_
  rintro e w' ⟨rfl, rfl⟩
  go_wp2_with fail
  go_quiet (fail)
  go_wp2
  go_ret
  exact ⟨congrArg (fun x => Ending.returned (Value.int .i64 x)) e1.out, _, rfl⟩

/-- the error that End tells -/
def endE (l : List UInt8) (pos : Nat) : Int := if pos < l.length then 4 else 0
theorem end_yes (w : World) (g : Nat) (ad : Addr) (c : Nat) (l : List UInt8) (pos : Nat) (h : Rdr w g ad c l pos) :
    Calls Tryd.prog 73 #[.pointer (some ⟨g, 0, none⟩)] w (fun e w' => e = .returned (.int .i64 (endE l pos)) ∧ ∃ n, w' = w.drewN n) := by
  have h0 := h.cell0
  have hp := h.pos_le
  unfold endE
  by_cases hlt : pos < l.length
  · have e1 : decide (0 < l.length - pos) = true := by simp; omega
    rw [if_pos hlt]
    go_enter Tryd.func73, Tryd.ntmps73
    go_wp2_with fail
    refine (there_yes _ _ _ _ _ h0).mono ?_
    rintro e w' ⟨rfl, rfl⟩
    go_wp2_with fail
    refine (left_yes _ _ _ _ _ _ h).mono ?_
    rintro e w' ⟨rfl, n, rfl⟩
    go_wp2_with fail
    go_ret
    exact ⟨rfl, _, rfl⟩
  · have e1 : decide (0 < l.length - pos) = false := by simp; omega
    rw [if_neg hlt]
    go_enter Tryd.func73, Tryd.ntmps73
    go_wp2_with fail
    refine (there_yes _ _ _ _ _ h0).mono ?_
    rintro e w' ⟨rfl, rfl⟩
    go_wp2_with fail
    refine (left_yes _ _ _ _ _ _ h).mono ?_
    rintro e w' ⟨rfl, n, rfl⟩
    go_wp2_with fail
    go_ret
    exact ⟨rfl, _, rfl⟩

end Go.Proofs.YtemmdlanidepbaaDoor
