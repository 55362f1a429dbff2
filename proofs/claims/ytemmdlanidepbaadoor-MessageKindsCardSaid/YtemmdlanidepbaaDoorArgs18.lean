/- What the message laws' arguments look like, opened; a world in which the library's tables lie. -/
import Derived.Test.YtemmdlanidepbaaDoorRows
import Derived.Test.YtemmdlanidepbaaDoorArgs
import Derived.Test.YtemmdlanidepbaaDoorMsgCells
import Derived.Deep.DeepHandedRow
import Derived.Lib.LaidTab
namespace Go.Proofs.YtemmdlanidepbaaDoor
open Go.ChangeShapes Go.WideShapes Go.ChangeAt Go.RowKit
set_option maxRecDepth 100000

section
variable {H : Type} {enc : TypeId × Value → H} {W : World} {base : Nat} {held : Bool}
theorem int_at {t : TypeId} {fuel : Nat} {cs : List Value} {x : DataW H × List MemPlace} (hu : Tryd.prog.underlying t = some (.int .i64)) (h : DataW.trod enc Tryd.prog W base (fun _ => true) held fuel t cs = some x) : ∃ n : Int, cs = [.int .i64 n] ∧ I64 n := by
  obtain ⟨n, e, _, w0⟩ := DataW.trod_int hu h
  simp only [Lit.wf, Bool.and_eq_true, decide_eq_true_eq] at w0
  exact ⟨n, e, w0.1, w0.2⟩
theorem u8_at {t : TypeId} {fuel : Nat} {cs : List Value} {x : DataW H × List MemPlace} (hu : Tryd.prog.underlying t = some (.int .u8)) (h : DataW.trod enc Tryd.prog W base (fun _ => true) held fuel t cs = some x) : ∃ b : UInt8, cs = [.int .u8 (b.toNat : Int)] := by
  obtain ⟨n, e, _, w0⟩ := DataW.trod_int hu h
  simp only [Lit.wf, Bool.and_eq_true, decide_eq_true_eq] at w0
  have h1 : 0 ≤ n := w0.1
  have h2 : n ≤ 255 := w0.2
  refine ⟨UInt8.ofNat n.toNat, ?_⟩
  rw [e, UInt8.toNat_ofNat', Nat.mod_eq_of_lt (by omega), Int.toNat_of_nonneg h1]
/-- a body's bytes -/
theorem body_open {fuel : Nat} {cs : List Value} {x : DataW H × List MemPlace} (h : DataW.trod enc Tryd.prog W base (fun _ => true) held fuel 25 cs = some x) : ∃ l : List UInt8, l.length = 96 ∧ cs = bv l := by
  obtain ⟨xs, m, _, _, hl, hxl, hf⟩ := DataW.trod_array Tryd.underlying25 h
  rw [show Tryd.prog.cellsOf 25 = 96 by kernel_rfl] at hl
  rw [show Tryd.prog.cellsOf 5 = 1 by kernel_rfl] at hf
  have each : ∀ i, i < 96 → ∃ b : UInt8, cs[i]? = some (.int .u8 (b.toNat : Int)) := by
    intro i hi
    have h1 := hf i hi
    have hx : xs[i]? = some (xs[i]'(by omega)) := List.getElem?_eq_getElem (by omega)
    rw [hx] at h1
    obtain ⟨b, hb⟩ := u8_at Tryd.underlying5 h1
    refine ⟨b, ?_⟩
    have := congrArg (·[0]?) hb
    simpa [List.getElem?_take, List.getElem?_drop] using this
  obtain ⟨f, hf⟩ : ∃ f : Nat → UInt8, ∀ i, i < 96 → cs[i]? = some (.int .u8 ((f i).toNat : Int)) := ⟨fun i => if hi : i < 96 then (each i hi).choose else 0, fun i hi => by simp only [dif_pos hi]; exact (each i hi).choose_spec⟩
  refine ⟨(List.range 96).map f, by simp, List.ext_getElem? fun i => ?_⟩
  by_cases hi : i < 96
  · rw [hf i hi]
    simp [bv, hi]
  · rw [List.getElem?_eq_none (by omega), List.getElem?_eq_none (by simp [bv]; omega)]
/-- a message -/
theorem msg_open {fuel : Nat} {cs : List Value} {x : DataW H × List MemPlace} (h : DataW.trod enc Tryd.prog W base (fun _ => true) held fuel 27 cs = some x) : ∃ m : Msg, m.Ok ∧ cs = (mcells m).toList := by
  obtain ⟨xs, n, _, _, hl, hxl, hf⟩ := DataW.trod_struct Tryd.underlying27 h
  rw [show Tryd.prog.cellsOf 27 = 103 by kernel_rfl] at hl
  have key : ∀ (i : Nat) (t : TypeId) (o : Nat), (∃ fs : Array Field, Tryd.prog.underlying 27 = some (.struct fs) ∧ ∃ f, fs[i]? = some f ∧ f.type = t ∧ f.offset = o) → ∃ y, DataW.trod enc Tryd.prog W base (fun _ => true) held n t ((cs.drop o).take (Tryd.prog.cellsOf t)) = some y := by
    rintro i t o ⟨fs, hfs, f, hi, rfl, rfl⟩
    rw [Tryd.underlying27] at hfs
    injection hfs with hfs
    injection hfs with hfs
    subst hfs
    have h1 := hf i f hi
    have hlt : i < xs.length := by rw [hxl]; exact (Array.getElem?_eq_some_iff.1 hi).1
    rw [List.getElem?_eq_getElem hlt] at h1
    exact ⟨_, h1⟩
  obtain ⟨y0, h0⟩ := key 0 22 0 ⟨_, Tryd.underlying27, _, rfl, rfl, rfl⟩
  obtain ⟨y1, h1⟩ := key 1 3 1 ⟨_, Tryd.underlying27, _, rfl, rfl, rfl⟩
  obtain ⟨y2, h2⟩ := key 2 2 2 ⟨_, Tryd.underlying27, _, rfl, rfl, rfl⟩
  obtain ⟨y3, h3⟩ := key 3 23 3 ⟨_, Tryd.underlying27, _, rfl, rfl, rfl⟩
  obtain ⟨y4, h4⟩ := key 4 3 4 ⟨_, Tryd.underlying27, _, rfl, rfl, rfl⟩
  obtain ⟨y5, h5⟩ := key 5 2 5 ⟨_, Tryd.underlying27, _, rfl, rfl, rfl⟩
  obtain ⟨y6, h6⟩ := key 6 4 6 ⟨_, Tryd.underlying27, _, rfl, rfl, rfl⟩
  obtain ⟨y7, h7⟩ := key 7 25 7 ⟨_, Tryd.underlying27, _, rfl, rfl, rfl⟩
  rw [show Tryd.prog.cellsOf 22 = 1 by kernel_rfl] at h0
  rw [show Tryd.prog.cellsOf 3 = 1 by kernel_rfl] at h1 h4
  rw [show Tryd.prog.cellsOf 2 = 1 by kernel_rfl] at h2 h5
  rw [show Tryd.prog.cellsOf 23 = 1 by kernel_rfl] at h3
  rw [show Tryd.prog.cellsOf 4 = 1 by kernel_rfl] at h6
  rw [show Tryd.prog.cellsOf 25 = 96 by kernel_rfl] at h7
  obtain ⟨k, e0, w0⟩ := int_at Tryd.underlying22 h0
  obtain ⟨pg, e1, w1⟩ := int_at Tryd.underlying3 h1
  obtain ⟨op, e2, w2⟩ := int_at Tryd.underlying2 h2
  obtain ⟨md, e3, w3⟩ := int_at Tryd.underlying23 h3
  obtain ⟨ds, e4, w4⟩ := int_at Tryd.underlying3 h4
  obtain ⟨ps, e5, w5⟩ := int_at Tryd.underlying2 h5
  obtain ⟨dt, e6, _⟩ := DataW.trod_bool Tryd.underlying4 h6
  obtain ⟨b, hbl, e7⟩ := body_open h7
  refine ⟨⟨k, pg, op, md, ds, ps, dt, b⟩, ⟨w0, w1, w2, w3, w4, w5, hbl⟩, ?_⟩
  have cut : ∀ (l : List Value) (a : Nat), l.drop a = (l.drop a).take 1 ++ l.drop (a + 1) := fun l a => by
    have := (List.take_append_drop 1 (l.drop a)).symm
    rwa [List.drop_drop] at this
  have d0 : cs = cs.drop 0 := rfl
  rw [d0, cut cs 0, e0, cut cs 1, e1, cut cs 2, e2, cut cs 3, e3, cut cs 4, e4, cut cs 5, e5, cut cs 6, e6]
  have t7 : cs.drop 7 = (cs.drop 7).take 96 := by rw [List.take_of_length_le (by simp; omega)]
  rw [t7, e7]
  simp [mcells]
end
theorem gFirst : Tryd.prog.globalNamed "unicode/utf8.first" = some 0 := by kernel_rfl
/-- the library's tables -/
def firstCells : Array Value := (Go.Pinned.utf8FirstZ.map fun z : Nat => Value.int .u8 (z : Int)).toArray
def rangeCells : Array Value := #[.int .u8 128, .int .u8 191, .int .u8 160, .int .u8 191, .int .u8 128, .int .u8 159, .int .u8 144, .int .u8 191, .int .u8 128, .int .u8 143, .int .u8 0, .int .u8 0, .int .u8 0, .int .u8 0, .int .u8 0, .int .u8 0, .int .u8 0, .int .u8 0, .int .u8 0, .int .u8 0, .int .u8 0, .int .u8 0, .int .u8 0, .int .u8 0, .int .u8 0, .int .u8 0, .int .u8 0, .int .u8 0, .int .u8 0, .int .u8 0, .int .u8 0, .int .u8 0]
/-- a block's cells laid anew -/
def relay (cs : Array Value) : Obj → Obj
  | .cells _ t frozen => .cells cs t frozen
  | o => o
/-- a world for the witness: the settled one, the tables holding what their initialisers lay -/
noncomputable def laidWorld (os : Os) (e : Input) : World := { World.holding Tryd.prog os e with heap := ((World.holding Tryd.prog os e).heap.modify 0 (relay firstCells)).modify 1 (relay rangeCells) }
end Go.Proofs.YtemmdlanidepbaaDoor
