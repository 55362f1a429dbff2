/- What the pool laws' arguments look like, opened: scripts of steps. -/
import Derived.Test.YtjbjfpbhacpeiaaRows
import Derived.Test.YtjbjfpbhacpeiaaL1
import Derived.ProofKit
import Derived.OpenShut
import Derived.SizedLaws
import Derived.Carry
import Derived.Deep.Slices
namespace Go.Proofs.Ytjbjfpbhacpeiaa
open Go.ChangeShapes Go.WideShapes Go.ChangeAt Go.RowKit
set_option maxRecDepth 100000
set_option linter.unusedVariables false

theorem ownOf : ownKnob Try.prog.godebug = none := by kernel_rfl
theorem laidOut : laidOutB Try.prog = true := by kernel_rfl
section
variable {H : Type} {enc : TypeId × Value → H} {W : World} {base : Nat} {held : Bool}
theorem int_at {t : TypeId} {fuel : Nat} {cs : List Value} {x : DataW H × List MemPlace} (hu : Try.prog.underlying t = some (.int .i64)) (h : DataW.trod enc Try.prog W base (fun _ => true) held fuel t cs = some x) : ∃ n : Int, cs = [.int .i64 n] ∧ I64 n := by
  obtain ⟨n, e, _, w0⟩ := DataW.trod_int hu h
  simp only [Lit.wf, Bool.and_eq_true, decide_eq_true_eq] at w0
  exact ⟨n, e, w0.1, w0.2⟩
theorem u8_at {t : TypeId} {fuel : Nat} {cs : List Value} {x : DataW H × List MemPlace} (hu : Try.prog.underlying t = some (.int .u8)) (h : DataW.trod enc Try.prog W base (fun _ => true) held fuel t cs = some x) : ∃ b : UInt8, cs = [.int .u8 (b.toNat : Int)] := by
  obtain ⟨n, e, _, w0⟩ := DataW.trod_int hu h
  simp only [Lit.wf, Bool.and_eq_true, decide_eq_true_eq] at w0
  have h1 : 0 ≤ n := w0.1
  have h2 : n ≤ 255 := w0.2
  refine ⟨UInt8.ofNat n.toNat, ?_⟩
  rw [e, UInt8.toNat_ofNat', Nat.mod_eq_of_lt (by omega), Int.toNat_of_nonneg h1]
/-- a body's bytes -/
theorem body_open {fuel : Nat} {cs : List Value} {x : DataW H × List MemPlace} (h : DataW.trod enc Try.prog W base (fun _ => true) held fuel 35 cs = some x) : ∃ l : List UInt8, l.length = 96 ∧ cs = bv l := by
  obtain ⟨xs, m, _, _, hl, hxl, hf⟩ := DataW.trod_array Try.underlying35 h
  rw [show Try.prog.cellsOf 35 = 96 by kernel_rfl] at hl
  rw [show Try.prog.cellsOf 5 = 1 by kernel_rfl] at hf
  have each : ∀ i, i < 96 → ∃ b : UInt8, cs[i]? = some (.int .u8 (b.toNat : Int)) := by
    intro i hi
    have h1 := hf i hi
    have hx : xs[i]? = some (xs[i]'(by omega)) := List.getElem?_eq_getElem (by omega)
    rw [hx] at h1
    obtain ⟨b, hb⟩ := u8_at Try.underlying5 h1
    refine ⟨b, ?_⟩
    have := congrArg (·[0]?) hb
    simpa [List.getElem?_take, List.getElem?_drop] using this
  obtain ⟨f, hf⟩ : ∃ f : Nat → UInt8, ∀ i, i < 96 → cs[i]? = some (.int .u8 ((f i).toNat : Int)) := ⟨fun i => if hi : i < 96 then (each i hi).choose else 0, fun i hi => by simp only [dif_pos hi]; exact (each i hi).choose_spec⟩
  refine ⟨(List.range 96).map f, by simp, List.ext_getElem? fun i => ?_⟩
  by_cases hi : i < 96
  · rw [hf i hi]
    simp [bv, hi]
  · rw [List.getElem?_eq_none (by omega), List.getElem?_eq_none (by simp [bv]; omega)]
theorem cut1 (l : List Value) (a : Nat) : l.drop a = (l.drop a).take 1 ++ l.drop (a + 1) := by
  have := (List.take_append_drop 1 (l.drop a)).symm
  rwa [List.drop_drop] at this
/-- the parts of a struct -/
theorem part_key {t : TypeId} {fuel : Nat} {cs : List Value} {x : DataW H × List MemPlace} {fs : Array Field} (hu : Try.prog.underlying t = some (.struct fs)) (h : DataW.trod enc Try.prog W base (fun _ => true) held fuel t cs = some x) :
    cs.length = Try.prog.cellsOf t ∧ ∃ n, ∀ (i : Nat) (ti : TypeId) (o : Nat), (∃ f, fs[i]? = some f ∧ f.type = ti ∧ f.offset = o) → ∃ y, DataW.trod enc Try.prog W base (fun _ => true) held n ti ((cs.drop o).take (Try.prog.cellsOf ti)) = some y := by
  obtain ⟨xs, n, _, _, hl, hxl, hf⟩ := DataW.trod_struct hu h
  refine ⟨hl, n, ?_⟩
  rintro i ti o ⟨f, hi, rfl, rfl⟩
  have h1 := hf i f hi
  have hlt : i < xs.length := by rw [hxl]; exact (Array.getElem?_eq_some_iff.1 hi).1
  rw [List.getElem?_eq_getElem hlt] at h1
  exact ⟨_, h1⟩
/-- a version -/
theorem ve_open {fuel : Nat} {cs : List Value} {x : DataW H × List MemPlace} (h : DataW.trod enc Try.prog W base (fun _ => true) held fuel 37 cs = some x) : ∃ (p : Int) (l : List UInt8), I64 p ∧ l.length = 96 ∧ cs = .int .i64 p :: bv l := by
  obtain ⟨hl, n, key⟩ := part_key Try.underlying37 h
  rw [show Try.prog.cellsOf 37 = 97 by kernel_rfl] at hl
  obtain ⟨y0, h0⟩ := key 0 2 0 ⟨_, rfl, rfl, rfl⟩
  obtain ⟨y1, h1⟩ := key 1 35 1 ⟨_, rfl, rfl, rfl⟩
  rw [show Try.prog.cellsOf 2 = 1 by kernel_rfl] at h0
  rw [show Try.prog.cellsOf 35 = 96 by kernel_rfl] at h1
  obtain ⟨p, e0, w0⟩ := int_at Try.underlying2 h0
  obtain ⟨l, hbl, e1⟩ := body_open h1
  refine ⟨p, l, w0, hbl, ?_⟩
  have d0 : cs = cs.drop 0 := rfl
  rw [d0, cut1 cs 0, e0]
  have t1 : cs.drop 1 = (cs.drop 1).take 96 := by rw [List.take_of_length_le (by simp; omega)]
  rw [t1, e1]
  rfl
/-- a frame -/
theorem fr_open {fuel : Nat} {cs : List Value} {x : DataW H × List MemPlace} (h : DataW.trod enc Try.prog W base (fun _ => true) held fuel 39 cs = some x) : ∃ f : Fr, f.Ok ∧ cs = fcells f := by
  obtain ⟨hl, n, key⟩ := part_key Try.underlying39 h
  rw [show Try.prog.cellsOf 39 = 102 by kernel_rfl] at hl
  obtain ⟨y0, h0⟩ := key 0 3 0 ⟨_, rfl, rfl, rfl⟩
  obtain ⟨y1, h1⟩ := key 1 33 1 ⟨_, rfl, rfl, rfl⟩
  obtain ⟨y2, h2⟩ := key 2 2 2 ⟨_, rfl, rfl, rfl⟩
  obtain ⟨y3, h3⟩ := key 3 2 3 ⟨_, rfl, rfl, rfl⟩
  obtain ⟨y4, h4⟩ := key 4 37 4 ⟨_, rfl, rfl, rfl⟩
  obtain ⟨y5, h5⟩ := key 5 4 101 ⟨_, rfl, rfl, rfl⟩
  rw [show Try.prog.cellsOf 3 = 1 by kernel_rfl] at h0
  rw [show Try.prog.cellsOf 33 = 1 by kernel_rfl] at h1
  rw [show Try.prog.cellsOf 2 = 1 by kernel_rfl] at h2 h3
  rw [show Try.prog.cellsOf 37 = 97 by kernel_rfl] at h4
  rw [show Try.prog.cellsOf 4 = 1 by kernel_rfl] at h5
  obtain ⟨pg, e0, w0⟩ := int_at Try.underlying3 h0
  obtain ⟨md, e1, w1⟩ := int_at Try.underlying33 h1
  obtain ⟨op, e2, w2⟩ := int_at Try.underlying2 h2
  obtain ⟨fi, e3, w3⟩ := int_at Try.underlying2 h3
  obtain ⟨ps, b, w4, hb, e4⟩ := ve_open h4
  obtain ⟨dt, e5, _⟩ := DataW.trod_bool Try.underlying4 h5
  refine ⟨⟨pg, md, op, fi, ps, b, dt⟩, ⟨w0, w1, w2, w3, w4, hb⟩, ?_⟩
  have d0 : cs = cs.drop 0 := rfl
  rw [d0, cut1 cs 0, e0, cut1 cs 1, e1, cut1 cs 2, e2, cut1 cs 3, e3]
  have t4 : cs.drop 4 = (cs.drop 4).take 97 ++ cs.drop 101 := by
    have := (List.take_append_drop 97 (cs.drop 4)).symm
    rwa [List.drop_drop] at this
  have t5 : cs.drop 101 = (cs.drop 101).take 1 := by rw [List.take_of_length_le (by simp; omega)]
  rw [t4, e4, t5, e5]
  simp [fcells]
/-- a step -/
theorem st_open {fuel : Nat} {cs : List Value} {x : DataW H × List MemPlace} (h : DataW.trod enc Try.prog W base (fun _ => true) held fuel 41 cs = some x) : ∃ s : St, s.Ok ∧ cs = stcells s := by
  obtain ⟨hl, n, key⟩ := part_key Try.underlying41 h
  rw [show Try.prog.cellsOf 41 = 104 by kernel_rfl] at hl
  obtain ⟨y0, h0⟩ := key 0 3 0 ⟨_, rfl, rfl, rfl⟩
  obtain ⟨y1, h1⟩ := key 1 3 1 ⟨_, rfl, rfl, rfl⟩
  obtain ⟨y2, h2⟩ := key 2 39 2 ⟨_, rfl, rfl, rfl⟩
  rw [show Try.prog.cellsOf 3 = 1 by kernel_rfl] at h0 h1
  rw [show Try.prog.cellsOf 39 = 102 by kernel_rfl] at h2
  obtain ⟨k, e0, w0⟩ := int_at Try.underlying3 h0
  obtain ⟨m, e1, w1⟩ := int_at Try.underlying3 h1
  obtain ⟨f, hf, e2⟩ := fr_open h2
  refine ⟨⟨k, m, f⟩, ⟨w0, w1, hf⟩, ?_⟩
  have d0 : cs = cs.drop 0 := rfl
  rw [d0, cut1 cs 0, e0, cut1 cs 1, e1]
  have t2 : cs.drop 2 = (cs.drop 2).take 102 := by rw [List.take_of_length_le (by simp; omega)]
  rw [t2, e2]
  rfl
/-- two numbers of places -/
theorem duo_open {fuel : Nat} {cs : List Value} {x : DataW H × List MemPlace} (h : DataW.trod enc Try.prog W base (fun _ => true) held fuel 44 cs = some x) : ∃ a b : Int, (I64 a ∧ I64 b) ∧ cs = [.int .i64 a, .int .i64 b] := by
  obtain ⟨xs, m, _, _, hl, hxl, hf⟩ := DataW.trod_array Try.underlying44 h
  rw [show Try.prog.cellsOf 44 = 2 by kernel_rfl] at hl
  rw [show Try.prog.cellsOf 3 = 1 by kernel_rfl] at hf
  match xs, hxl, cs, hl with
  | [y0, y1], _, [v0, v1], _ =>
    have g0 := hf 0 (by omega)
    have g1 := hf 1 (by omega)
    simp at g0 g1
    obtain ⟨a, e0, w0⟩ := int_at Try.underlying3 g0
    obtain ⟨b, e1, w1⟩ := int_at Try.underlying3 g1
    injection e0 with e0
    injection e1 with e1
    subst e0 e1
    exact ⟨a, b, ⟨w0, w1⟩, rfl⟩
theorem agg_two {v a b : Value} (h : v.cells.toList = [a, b]) : v = .agg #[a, b] := by
  cases v with
  | agg cs =>
    have : cs.toList = [a, b] := h
    rw [← Array.toArray_toList (xs := cs), this]
  | _ => simp [Value.cells] at h
/-- a script -/
theorem script_open {fuel : Nat} {cs : List Value} {x : DataW H × List MemPlace} (h : DataW.trod enc Try.prog W base (fun _ => true) held fuel 22 cs = some x) :
    ∃ A c, ∃ L : List St, cs = [.slice A L.length c] ∧ At W A (L.flatMap stcells) ∧ ∀ s ∈ L, s.Ok := by
  rcases Go.Deep.open_slice Try.underlying22 h with ⟨rfl, rfl⟩ | ⟨a, len, cap, m, n, D, Pl, rfl, _, hl, hm, hmm, rfl, hx⟩
  · exact ⟨none, 0, [], rfl, At.nil _ _, by simp⟩
  · simp only [if_true] at hmm
    have each : ∀ i, i < len → ∃ s : St, s.Ok ∧ ∀ j v, (stcells s)[j]? = some v → W.cell? (a.add (i * 104 + j)) = some v := by
      intro i hi
      obtain ⟨cs', h1, h2⟩ := hx i (by omega)
      rw [show Try.prog.cellsOf 41 = 104 by kernel_rfl] at h1
      obtain ⟨_, hlen, hcell⟩ := World.cells?_some h1
      obtain ⟨s, hs, rfl⟩ := st_open h2
      refine ⟨s, hs, fun j v hj => ?_⟩
      have hj2 : j < 104 := by have := (List.getElem?_eq_some_iff.1 hj).1; omega
      have e := hcell j hj2
      rw [add_add] at e
      rw [e]
      first
        | exact hj
        | (rw [List.getElem?_eq_getElem (by omega)] at hj; simpa using hj)
    obtain ⟨f, hf⟩ : ∃ f : Nat → St, ∀ i, i < len → (f i).Ok ∧ ∀ j v, (stcells (f i))[j]? = some v → W.cell? (a.add (i * 104 + j)) = some v :=
      ⟨fun i => if hi : i < len then (each i hi).choose else ⟨0, 0, fr0⟩, fun i hi => by simp only [dif_pos hi]; exact (each i hi).choose_spec⟩
    have hL : ((List.range len).map f).length = len := by simp
    have hlen : ∀ s ∈ (List.range len).map f, (stcells s).length = 104 := fun s hs => by
      simp only [List.mem_map, List.mem_range] at hs
      obtain ⟨i, hi, rfl⟩ := hs
      simp [stcells, fcells_len (hf i hi).1.f]
    refine ⟨some a, cap, (List.range len).map f, by rw [hL], fun k v hk => ⟨a, rfl, ?_⟩, fun s hs => ?_⟩
    · have hk2 : k < len * 104 := by have := (List.getElem?_eq_some_iff.1 hk).1; rw [fl_len _ hlen, hL] at this; exact this
      have hd : k / 104 < len := by omega
      have e : k / 104 * 104 + k % 104 = k := by omega
      have hg := fl_get _ hlen (k / 104) (k % 104) (by omega)
      rw [e, hk] at hg
      simp only [List.getElem?_map, List.getElem?_range hd, Option.map_some, Option.bind_some] at hg
      have := (hf (k / 104) hd).2 (k % 104) v hg.symm
      rwa [e] at this
    · simp only [List.mem_map, List.mem_range] at hs
      obtain ⟨i, hi, rfl⟩ := hs
      exact (hf i hi).1
end
end Go.Proofs.Ytjbjfpbhacpeiaa
