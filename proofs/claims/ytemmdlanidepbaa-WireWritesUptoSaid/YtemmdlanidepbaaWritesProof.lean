/- The law WireWrites returns true; its arguments read as before. Where what it reads is of bulk at most 1048576. -/
import Derived.Test.YtemmdlanidepbaaRows
import Derived.Test.YtemmdlanidepbaaArgs
import Derived.Test.YtemmdlanidepbaaWrites
import Derived.ProofKit
import Derived.OpenShut
import Derived.JoinedCond
namespace Go.Proofs.Ytemmdlanidepbaa.wireWrites
open Go.ChangeShapes Go.WideShapes Go.ChangeAt Go.RowKit

set_option maxHeartbeats 2000000 in
set_option maxRecDepth 100000 in
theorem lifted (os : Os) (started : os.Started) (H : Type) (enc : TypeId × Value → H) (F : Stop.Interp) :
    ReturnsInHanded {} Try.checked os 3 .any ((Rows.OpenSpec.upto Rows.wireWritesSpec).pre6 enc Try.prog Try.f3 Rows.wireWritesUptoRow.domain false) (((Rows.OpenSpec.upto Rows.wireWritesSpec).at F).post enc Try.prog Try.f3 false true false false) := by
  refine returnsInHanded_of_cond (C := Try.checked) (s := Rows.OpenSpec.upto Rows.wireWritesSpec) (k := Rows.uptoSmall) rfl ownOf started (by kernel_rfl) Try.func3
    (OpenSpec.witness (enc := enc) (C := Try.checked) (s := Rows.OpenSpec.upto Rows.wireWritesSpec) (k := Rows.uptoSmall) rfl false ⟨#[], #[.agg #[.int .u64 0, .int .i64 0, .bool false, .slice none 0 0], .slice none 0 0], []⟩ 8 (by kernel_rfl) (by kernel_rfl) (by kernel_rfl)
      (x := ([.agg [.lit (.int .u64 0), .lit (.int .i64 0), .lit (.bool false), .nil], .nil], [], [])) (by kernel_rfl) rfl (by kernel_rfl)) ?_
  intro W base args ds gs before hval0 hW _ hk0 _
  have hval : ∀ (j : Nat) t v, Try.f3.params[j]? = some t → args[j]? = some v → Value.okWide Try.prog W .any base t v := hval0
  have hW' := hW
  obtain ⟨p, q, hA0, hV, rfl, _, _⟩ := hW
  have hA : DataW.TrodAll enc Try.prog W 0 (fun _ => true) true Try.f3.params.toList args.toList ds p := hA0
  rw [Try.params3] at hA hval
  obtain ⟨v0, v1, d0, d1, p0, p1, rfl, rfl, rfl, h0, h1⟩ := trodAll_two hA
  obtain ⟨rfl, rfl⟩ := trodVars_none hV
  have h0k := h0
  have h1k := h1
  obtain ⟨f0, hf0⟩ := h0
  obtain ⟨f1, hf1⟩ := h1
  have hk : Rows.uptoBulkAll [d0, d1] ≤ 1048576 := of_decide_eq_true hk0
  clear hA0 hval0 hV hk0
  simp only [List.append_nil] at hW'
  have lt0 : ∀ x ∈ p0, x.block < W.heap.size := fun x hx => by simpa using hW'.lt x (by simp [hx])
  have lt1 : ∀ x ∈ p1, x.block < W.heap.size := fun x hx => by simpa using hW'.lt x (by simp [hx])
  obtain ⟨cs, rfl, _⟩ := okWide_struct Try.underlying25 (hval 0 25 v0 rfl rfl)
  obtain ⟨a1, len1, cap1, rfl⟩ := okWide_slice Try.underlying26 (hval 1 26 v1 rfl rfl)
  obtain ⟨n, s, f, A, c, l, d3, e0, hn, hs, hlc, hAl, ed0, hd3⟩ := things_open hf0
  obtain ⟨A2, c2, L, e1, hbc, hA2, hd1⟩ := rows_open hf1
  have ecs : cs = #[.int .u64 (n : Int), .int .i64 s, .bool f, .slice A l.length c] := by
    have : cs.toList = [.int .u64 (n : Int), .int .i64 s, .bool f, .slice A l.length c] := e0
    rw [← Array.toArray_toList (xs := cs), this]
  subst ecs
  have e1' : Value.slice a1 len1 cap1 = .slice A2 L.length c2 := by
    have : [Value.slice a1 len1 cap1] = [.slice A2 L.length c2] := e1
    injection this
  injection e1' with q0 q1 q2
  subst q0 q1 q2
  have ed0' : d0 = .agg [.lit (.int .u64 (n : Int)), .lit (.int .i64 s), .lit (.bool f), d3] := ed0
  have hd1' : d1 = .nil ∧ L = [] ∨ ∃ es sp, d1 = .slice es sp ∧ es.length = L.length ∧ ∀ j (h1 : j < es.length) (h2 : j < L.length), es[j] = .nil ∧ L[j] = [] ∨ ∃ e' s', es[j] = .slice e' s' ∧ e'.length = (L[j]).length := hd1
  clear e0 e1 hf0 hf1 hval ed0 hd1
  simp only [Rows.uptoBulkAll] at hk
  have hb3 := bulk_bytes hd3
  have hl : l.length ≤ 1048576 := by
    rw [ed0'] at hk
    simp only [Rows.uptoBulk, Rows.uptoBulkAll] at hk
    omega
  have hL : L.length ≤ 1048576 ∧ L.flatten.length ≤ 1048576 := by
    rcases hd1' with ⟨_, rfl⟩ | ⟨es, sp, rfl, e, he⟩
    · simp
    · have h1 := bulk_len es
      have h2 := bulk_flat es L e he
      simp only [Rows.uptoBulk] at hk
      omega
  refine (wireWrites_walk W n hn s hs f A c l hAl hl a1 cap1 L hA2 hL.1 hL.2).mono fun e W' ⟨he, bel⟩ => ?_
  subst he
  have k0 := Below.trod laidOut (by kernel_rfl) (of_decide_eq_true (by kernel_rfl)) h0k bel lt0
  have k1 := Below.trod laidOut (by kernel_rfl) (of_decide_eq_true (by kernel_rfl)) h1k bel lt1
  exact ⟨_, rfl, _, _, _, [], _, [], hW', trodAll_mk1 (shut_bool Try.underlying4 _), trodAll_mk2 k0 k1, rfl, bel.frame _, fun h => by cases h⟩

theorem over : Rows.WireWritesUptoSaid :=
  OpenClaim.holds_of_cond 3 Try.f3 rfl rfl rfl rfl rfl rfl rfl ⟨rfl, rfl, rfl, rfl, rfl⟩ rfl rfl rfl rfl rfl (by kernel_rfl) Try.func3 (by kernel_rfl)
    (of_decide_eq_true (by kernel_rfl)) (by unfold Func.isWrapper; rw [if_neg (of_decide_eq_false (by kernel_rfl))]; exact ⟨rfl, rfl⟩)
    (fun os started H enc _ F => lifted os started H enc F)

theorem proved : Rows.WireWritesUptoSaid := over
#print axioms proved
end Go.Proofs.Ytemmdlanidepbaa.wireWrites
