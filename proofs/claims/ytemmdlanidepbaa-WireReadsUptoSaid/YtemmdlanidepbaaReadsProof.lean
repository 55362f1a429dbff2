/- The law WireReads returns true; its arguments read as before. Where what it reads is of bulk at most 1048576. -/
import Derived.Test.YtemmdlanidepbaaRows
import Derived.Test.YtemmdlanidepbaaArgs
import Derived.Test.YtemmdlanidepbaaReads
import Derived.Deep.SlicePairs
import Derived.ProofKit
import Derived.OpenShut
import Derived.JoinedCond
namespace Go.Proofs.Ytemmdlanidepbaa.wireReads
open Go.ChangeShapes Go.WideShapes Go.ChangeAt Go.RowKit

theorem slice_block {W : World} {base len cap : Nat} {a : Addr} (h : Value.okWide Try.prog W .any base 23 (.slice (some a) len cap)) : a.block < W.heap.size := by
  simp only [Value.okWide, Try.underlying23, Cell.okWide, Cell.ok] at h
  obtain ⟨_, _, _, _, row, cells, hs, _⟩ := h
  unfold World.shape? at hs
  cases hb : W.heap[a.block]? with
  | none => rw [hb] at hs; cases hs
  | some o => exact (Array.getElem?_eq_some_iff.1 hb).1

theorem at_ov {w : World} {a : Addr} {P : List (Int × Int)} (h : ∀ i (hi : i < P.length), w.cell? (a.add (i * 2)) = some (.int .i64 (P[i]).1) ∧ w.cell? (a.add (i * 2 + 1)) = some (.int .i64 (P[i]).2)) : At w (some a) (ov P) := fun j u hj => by
  refine ⟨a, rfl, ?_⟩
  have hl := (List.getElem?_eq_some_iff.1 hj).1
  rw [ov_len] at hl
  obtain ⟨z0, z1⟩ := ov_get P (j / 2) (by omega)
  obtain ⟨c0, c1⟩ := h (j / 2) (by omega)
  by_cases h2 : j % 2 = 0
  · rw [show 2 * (j / 2) = j by omega, hj] at z0
    injection z0 with z0
    rw [z0, ← c0]
    congr 2
    omega
  · rw [show 2 * (j / 2) + 1 = j by omega, hj] at z1
    injection z1 with z1
    rw [z1, ← c1]
    congr 2
    omega

/-- A script. -/
theorem ops_open {H : Type} {enc : TypeId × Value → H} {W : World} {base : Nat} {held : Bool} {fuel : Nat} {cs : List Value} {x : DataW H × List MemPlace} (h : DataW.trod enc Try.prog W base (fun _ => true) held fuel 58 cs = some x) :
    ∃ A c, ∃ P : List (Int × Int), cs = [.slice A P.length c] ∧ At W A (ov P) ∧ (∀ p ∈ P, I64 p.2) ∧ (x.1 = .nil ∧ P = [] ∨ ∃ es sp, x.1 = .slice es sp ∧ es.length = P.length) := by
  rcases Go.Deep.open_slice_pairs Try.underlying58 Try.underlying64 (by kernel_rfl) rfl rfl (by kernel_rfl) (by kernel_rfl) h with ⟨rfl, rfl⟩ | ⟨a, len, cap, m, n, V0, V1, D0, D1, P0, P1, rfl, _, hl, hm, hmm, rfl, hx⟩
  · exact ⟨none, 0, [], rfl, At.nil _ _, by simp, .inl ⟨rfl, rfl⟩⟩
  · simp only [if_true] at hmm
    have each : ∀ i, i < len → ∃ p : Int × Int, W.cell? (a.add (i * 2)) = some (.int .i64 p.1) ∧ W.cell? (a.add (i * 2 + 1)) = some (.int .i64 p.2) ∧ I64 p.2 := by
      intro i hi
      obtain ⟨e0, e1, g0, g1⟩ := hx i (by omega)
      obtain ⟨s, q0, _, w0⟩ := DataW.trod_int Try.underlying3 g0
      obtain ⟨t, q1, _, w1⟩ := DataW.trod_int Try.underlying3 g1
      injection q0 with q0
      injection q1 with q1
      simp only [Lit.wf, Bool.and_eq_true, decide_eq_true_eq] at w1
      exact ⟨(s, t), by rw [e0, q0], by rw [e1, q1], w1.1, w1.2⟩
    obtain ⟨f, hf⟩ : ∃ f : Nat → Int × Int, ∀ i, i < len → W.cell? (a.add (i * 2)) = some (.int .i64 (f i).1) ∧ W.cell? (a.add (i * 2 + 1)) = some (.int .i64 (f i).2) ∧ I64 (f i).2 :=
      ⟨fun i => if hi : i < len then (each i hi).choose else (0, 0), fun i hi => by simp only [dif_pos hi]; exact (each i hi).choose_spec⟩
    have hL : ((List.range len).map f).length = len := by simp
    refine ⟨some a, cap, (List.range len).map f, by rw [hL], at_ov fun i hi => ?_, fun p hp => ?_, .inr ⟨_, _, rfl, by simp⟩⟩
    · have hi' : i < len := by rwa [hL] at hi
      simpa using ⟨(hf i hi').1, (hf i hi').2.1⟩
    · simp only [List.mem_map, List.mem_range] at hp
      obtain ⟨i, hi, rfl⟩ := hp
      exact (hf i hi).2.2

set_option maxHeartbeats 2000000 in
set_option maxRecDepth 100000 in
theorem lifted (os : Os) (started : os.Started) (H : Type) (enc : TypeId × Value → H) (F : Stop.Interp) :
    ReturnsInHanded {} Try.checked os 6 .any ((Rows.OpenSpec.upto Rows.wireReadsSpec).pre6 enc Try.prog Try.f6 Rows.wireReadsUptoRow.domain false) (((Rows.OpenSpec.upto Rows.wireReadsSpec).at F).post enc Try.prog Try.f6 false true false false) := by
  refine returnsInHanded_of_cond (C := Try.checked) (s := Rows.OpenSpec.upto Rows.wireReadsSpec) (k := Rows.uptoSmall) rfl ownOf started (by kernel_rfl) Try.func6
    (OpenSpec.witness (enc := enc) (C := Try.checked) (s := Rows.OpenSpec.upto Rows.wireReadsSpec) (k := Rows.uptoSmall) rfl false ⟨#[], #[.slice none 0 0, .slice none 0 0], []⟩ 8 (by kernel_rfl) (by kernel_rfl) (by kernel_rfl)
      (x := ([.nil, .nil], [], [])) (by kernel_rfl) rfl (by kernel_rfl)) ?_
  intro W base args ds gs before hval0 hW _ hk0 _
  have hval : ∀ (j : Nat) t v, Try.f6.params[j]? = some t → args[j]? = some v → Value.okWide Try.prog W .any base t v := hval0
  have hW' := hW
  obtain ⟨p, q, hA0, hV, rfl, _, _⟩ := hW
  have hA : DataW.TrodAll enc Try.prog W 0 (fun _ => true) true Try.f6.params.toList args.toList ds p := hA0
  rw [Try.params6] at hA hval
  obtain ⟨v0, v1, d0, d1, p0, p1, rfl, rfl, rfl, h0, h1⟩ := trodAll_two hA
  obtain ⟨rfl, rfl⟩ := trodVars_none hV
  have h0k := h0
  have h1k := h1
  obtain ⟨f0, hf0⟩ := h0
  obtain ⟨f1, hf1⟩ := h1
  have hk : Rows.uptoBulkAll [d0, d1] ≤ 1048576 := of_decide_eq_true hk0
  clear hA0 hval0 hV hk0
  simp only [List.append_nil] at hW'
  have lt0 : ∀ x ∈ p0, x.block < W.heap.size := fun x hx => by simpa using hW'.lt x (by simp [hx])
  have lt1 : ∀ x ∈ p1, x.block < W.heap.size := fun x hx => by simpa using hW'.lt x (by simp [hx])
  obtain ⟨a0, len0, cap0, rfl⟩ := okWide_slice Try.underlying23 (hval 0 23 v0 rfl rfl)
  obtain ⟨a1, len1, cap1, rfl⟩ := okWide_slice Try.underlying58 (hval 1 58 v1 rfl rfl)
  have hblk : ∀ ad, a0 = some ad → ad.block < W.heap.size := fun ad e => slice_block (by rw [e] at hval; exact hval 0 23 _ rfl rfl)
  obtain ⟨A, c, l, e0, hlc, hAl, hd0⟩ := bytes_open hf0
  obtain ⟨A2, c2, K, e1, hA2, hK, hd1⟩ := ops_open hf1
  have e0' : Value.slice a0 len0 cap0 = .slice A l.length c := by
    have : [Value.slice a0 len0 cap0] = [.slice A l.length c] := e0
    injection this
  have e1' : Value.slice a1 len1 cap1 = .slice A2 K.length c2 := by
    have : [Value.slice a1 len1 cap1] = [.slice A2 K.length c2] := e1
    injection this
  injection e0' with q0 q1 q2
  subst q0 q1 q2
  injection e1' with q0 q1 q2
  subst q0 q1 q2
  have hd0' : d0 = .nil ∧ l = [] ∨ ∃ es sp, d0 = .slice es sp ∧ es.length = l.length := hd0
  have hd1' : d1 = .nil ∧ K = [] ∨ ∃ es sp, d1 = .slice es sp ∧ es.length = K.length := hd1
  clear e0 e1 hf0 hf1 hval hd0 hd1
  simp only [Rows.uptoBulkAll] at hk
  have hb0 := bulk_bytes hd0'
  have hl : l.length ≤ 1048576 := by omega
  have hn : K.length ≤ 1048576 := by
    rcases hd1' with ⟨_, rfl⟩ | ⟨es, sp, rfl, e⟩
    · simp
    · have h1 := bulk_len es
      simp only [Rows.uptoBulk] at hk
      omega
  refine (wireReads_walk W a0 cap0 l hAl hl hlc hblk a1 cap1 K hA2 hK hn).mono fun e W' ⟨he, bel⟩ => ?_
  subst he
  have k0 := Below.trod laidOut (by kernel_rfl) (of_decide_eq_true (by kernel_rfl)) h0k bel lt0
  have k1 := Below.trod laidOut (by kernel_rfl) (of_decide_eq_true (by kernel_rfl)) h1k bel lt1
  exact ⟨_, rfl, _, _, _, [], _, [], hW', trodAll_mk1 (shut_bool Try.underlying4 _), trodAll_mk2 k0 k1, rfl, bel.frame _, fun h => by cases h⟩

theorem over : Rows.WireReadsUptoSaid :=
  OpenClaim.holds_of_cond 6 Try.f6 rfl rfl rfl rfl rfl rfl rfl ⟨rfl, rfl, rfl, rfl, rfl⟩ rfl rfl rfl rfl rfl (by kernel_rfl) Try.func6 (by kernel_rfl)
    (of_decide_eq_true (by kernel_rfl)) (by unfold Func.isWrapper; rw [if_neg (of_decide_eq_false (by kernel_rfl))]; exact ⟨rfl, rfl⟩)
    (fun os started H enc _ F => lifted os started H enc F)

theorem proved : Rows.WireReadsUptoSaid := over
#print axioms proved
end Go.Proofs.Ytemmdlanidepbaa.wireReads
