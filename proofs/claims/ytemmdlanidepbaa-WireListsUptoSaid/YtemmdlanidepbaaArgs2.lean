/- What a slice of pairs looks like as an argument, opened. -/
import Derived.Test.YtemmdlanidepbaaArgs
import Derived.Test.YtemmdlanidepbaaPairs
import Derived.Deep.SlicePairs
namespace Go.Proofs.Ytemmdlanidepbaa
open Go.ChangeShapes Go.WideShapes Go.ChangeAt Go.RowKit

theorem at_pv {w : World} {a : Addr} {P : List (Nat × Nat)} (h : ∀ i (hi : i < P.length), w.cell? (a.add (i * 2)) = some (.int .u64 ((P[i]).1 : Int)) ∧ w.cell? (a.add (i * 2 + 1)) = some (.int .u64 ((P[i]).2 : Int))) : At w (some a) (pv P) := fun j u hj => by
  refine ⟨a, rfl, ?_⟩
  have hl := (List.getElem?_eq_some_iff.1 hj).1
  rw [pv_len] at hl
  obtain ⟨z0, z1⟩ := pv_get P (j / 2) (by omega)
  obtain ⟨c0, c1⟩ := h (j / 2) (by omega)
  by_cases h2 : j % 2 = 0
  · rw [show 2 * (j / 2) = j by omega, hj] at z0
    injection z0 with z0
    rw [z0, ← c0]
    congr 2
    omega
  · rw [show 2 * (j / 2) + 1 = j by omega, hj] at z1
    injection z1 with z1
    rw [z1, ← c1]
    congr 2
    omega

section
variable {H : Type} {enc : TypeId × Value → H} {W : World} {base : Nat} {held : Bool}
/-- Pairs of numbers. -/
theorem pairs_open {fuel : Nat} {cs : List Value} {x : DataW H × List MemPlace} (h : DataW.trod enc Try.prog W base (fun _ => true) held fuel 50 cs = some x) :
    ∃ A c, ∃ P : List (Nat × Nat), cs = [.slice A P.length c] ∧ P.length ≤ c ∧ At W A (pv P) ∧ (∀ p ∈ P, U64P p) ∧ (x.1 = .nil ∧ P = [] ∨ ∃ es sp, x.1 = .slice es sp ∧ es.length = P.length) := by
  rcases Go.Deep.open_slice Try.underlying50 h with ⟨rfl, rfl⟩ | ⟨a, len, cap, m, n, D, Pl, rfl, _, hl, hm, hmm, rfl, hx⟩
  · exact ⟨none, 0, [], rfl, Nat.le_refl _, At.nil _ _, by simp, .inl ⟨rfl, rfl⟩⟩
  · simp only [if_true] at hmm
    have each : ∀ i, i < len → ∃ p : Nat × Nat, W.cell? (a.add (i * 2)) = some (.int .u64 (p.1 : Int)) ∧ W.cell? (a.add (i * 2 + 1)) = some (.int .u64 (p.2 : Int)) ∧ U64P p := by
      intro i hi
      obtain ⟨cs', h1, h2⟩ := hx i (by omega)
      rw [show Try.prog.cellsOf 51 = 2 by kernel_rfl] at h1
      obtain ⟨_, hlen, hcell⟩ := World.cells?_some h1
      obtain ⟨xs, k, _, hxy, _, hxl, hf⟩ := DataW.trod_array Try.underlying51 h2
      rw [show Try.prog.cellsOf 22 = 1 by kernel_rfl] at hf
      match xs, hxl, cs', hlen with
      | [y0, y1], _, [v0, v1], _ =>
        have g0 := hf 0 (by omega)
        have g1 := hf 1 (by omega)
        simp at g0 g1
        have e0 := hcell 0 (by omega)
        have e1 := hcell 1 (by omega)
        rw [add_add] at e0 e1
        simp at e0 e1
        obtain ⟨s, q0, rfl, w0⟩ := DataW.trod_int Try.underlying22 g0
        obtain ⟨t, q1, rfl, w1⟩ := DataW.trod_int Try.underlying22 g1
        injection q0 with q0
        injection q1 with q1
        subst q0 q1
        simp only [Lit.wf, Bool.and_eq_true, decide_eq_true_eq] at w0 w1
        have p0 : 0 ≤ s := w0.1
        have p1 : s ≤ 18446744073709551615 := w0.2
        have p2 : 0 ≤ t := w1.1
        have p3 : t ≤ 18446744073709551615 := w1.2
        refine ⟨(s.toNat, t.toNat), ?_, ?_, by show s.toNat < _; omega, by show t.toNat < _; omega⟩
        · rw [e0, Int.toNat_of_nonneg p0]
        · rw [e1, Int.toNat_of_nonneg p2]
    obtain ⟨f, hf⟩ : ∃ f : Nat → Nat × Nat, ∀ i, i < len → W.cell? (a.add (i * 2)) = some (.int .u64 ((f i).1 : Int)) ∧ W.cell? (a.add (i * 2 + 1)) = some (.int .u64 ((f i).2 : Int)) ∧ U64P (f i) :=
      ⟨fun i => if hi : i < len then (each i hi).choose else (0, 0), fun i hi => by simp only [dif_pos hi]; exact (each i hi).choose_spec⟩
    have hL : ((List.range len).map f).length = len := by simp
    refine ⟨some a, cap, (List.range len).map f, by rw [hL], by rw [hL]; exact hl, at_pv fun i hi => ?_, fun p hp => ?_, .inr ⟨_, _, rfl, by simp⟩⟩
    · have hi' : i < len := by rwa [hL] at hi
      simpa using ⟨(hf i hi').1, (hf i hi').2.1⟩
    · simp only [List.mem_map, List.mem_range] at hp
      obtain ⟨i, hi, rfl⟩ := hp
      exact (hf i hi).2.2
end
end Go.Proofs.Ytemmdlanidepbaa
