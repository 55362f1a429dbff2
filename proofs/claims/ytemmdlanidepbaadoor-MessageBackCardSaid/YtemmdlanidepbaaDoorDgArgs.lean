/- A datagram among the arguments, opened. -/
import Derived.Test.YtemmdlanidepbaaDoorArgs18
import Derived.Test.YtemmdlanidepbaaDoorDgram
namespace Go.Proofs.YtemmdlanidepbaaDoor
open Go.ChangeShapes Go.WideShapes Go.ChangeAt Go.RowKit
set_option maxRecDepth 100000
section
variable {H : Type} {enc : TypeId × Value → H} {W : World} {base : Nat} {held : Bool}
/-- a datagram -/
theorem dg_open {fuel : Nat} {cs : List Value} {x : DataW H × List MemPlace} (h : DataW.trod enc Tryd.prog W base (fun _ => true) held fuel 53 cs = some x) :
    ∃ (d : Dg) (A : Option Addr) (c : Nat) (y0 y1 y2 y3 y4 d5 : DataW H), cs = (dcells d A c).toList ∧ At W A (bv d.body) ∧ x.1 = .agg [y0, y1, y2, y3, y4, d5] ∧ (d5 = .nil ∧ d.body = [] ∨ ∃ es sp, d5 = .slice es sp ∧ es.length = d.body.length) := by
  obtain ⟨xs, n, _, rfl, hl, hxl, hf⟩ := DataW.trod_struct Tryd.underlying53 h
  rw [show Tryd.prog.cellsOf 53 = 6 by kernel_rfl] at hl
  match cs, hl, xs, hxl with
  | [c0, c1, c2, c3, c4, c5], _, [y0, y1, y2, y3, y4, y5], _ =>
    have h0 : DataW.trod enc Tryd.prog W base (fun _ => true) held n 3 ((([c0, c1, c2, c3, c4, c5] : List Value).drop 0).take (Tryd.prog.cellsOf 3)) = some y0 := hf 0 _ rfl
    have h1 : DataW.trod enc Tryd.prog W base (fun _ => true) held n 3 ((([c0, c1, c2, c3, c4, c5] : List Value).drop 1).take (Tryd.prog.cellsOf 3)) = some y1 := hf 1 _ rfl
    have h2 : DataW.trod enc Tryd.prog W base (fun _ => true) held n 2 ((([c0, c1, c2, c3, c4, c5] : List Value).drop 2).take (Tryd.prog.cellsOf 2)) = some y2 := hf 2 _ rfl
    have h3 : DataW.trod enc Tryd.prog W base (fun _ => true) held n 2 ((([c0, c1, c2, c3, c4, c5] : List Value).drop 3).take (Tryd.prog.cellsOf 2)) = some y3 := hf 3 _ rfl
    have h4 : DataW.trod enc Tryd.prog W base (fun _ => true) held n 2 ((([c0, c1, c2, c3, c4, c5] : List Value).drop 4).take (Tryd.prog.cellsOf 2)) = some y4 := hf 4 _ rfl
    have h5 : DataW.trod enc Tryd.prog W base (fun _ => true) held n 28 ((([c0, c1, c2, c3, c4, c5] : List Value).drop 5).take (Tryd.prog.cellsOf 28)) = some y5 := hf 5 _ rfl
    clear hf
    rw [show Tryd.prog.cellsOf 3 = 1 by kernel_rfl] at h0 h1
    rw [show Tryd.prog.cellsOf 2 = 1 by kernel_rfl] at h2 h3 h4
    rw [show Tryd.prog.cellsOf 28 = 1 by kernel_rfl] at h5
    simp only [List.drop, List.take] at h0 h1 h2 h3 h4 h5
    obtain ⟨n0, e0, _⟩ := int_at Tryd.underlying3 h0
    obtain ⟨n1, e1, _⟩ := int_at Tryd.underlying3 h1
    obtain ⟨n2, e2, _⟩ := int_at Tryd.underlying2 h2
    obtain ⟨n3, e3, _⟩ := int_at Tryd.underlying2 h3
    obtain ⟨n4, e4, _⟩ := int_at Tryd.underlying2 h4
    obtain ⟨A, c, l, e5, _, hA, hx⟩ := bytes_open h5
    injection e0 with e0
    injection e1 with e1
    injection e2 with e2
    injection e3 with e3
    injection e4 with e4
    injection e5 with e5
    subst e0 e1 e2 e3 e4 e5
    exact ⟨⟨n0, n1, n2, n3, n4, l⟩, A, c, y0.1, y1.1, y2.1, y3.1, y4.1, y5.1, rfl, hA, rfl, hx⟩
end
end Go.Proofs.YtemmdlanidepbaaDoor
