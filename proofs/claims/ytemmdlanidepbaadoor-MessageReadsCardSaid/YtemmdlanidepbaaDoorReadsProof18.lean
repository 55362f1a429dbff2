/- The law MessageReads returns true; its argument reads as before. No condition, but that the listed tables of the library lie as its text lays them, which the card ties. -/
import Derived.Test.YtemmdlanidepbaaDoorCards
import Derived.Test.YtemmdlanidepbaaDoorTie
import Derived.Test.YtemmdlanidepbaaDoorArgs18
import Derived.Test.YtemmdlanidepbaaDoorReads18
import Derived.ProofKit
import Derived.OpenShut
namespace Go.Proofs.YtemmdlanidepbaaDoor.messageReads
open Go.ChangeShapes Go.WideShapes Go.ChangeAt Go.RowKit
set_option maxRecDepth 100000

theorem slice_block {W : World} {base len cap : Nat} {a : Addr} (h : Value.okWide Tryd.prog W .any base 28 (.slice (some a) len cap)) : a.block < W.heap.size := by
  simp only [Value.okWide, Tryd.underlying28, Cell.okWide, Cell.ok] at h
  obtain ⟨_, _, _, _, row, cells, hs, _⟩ := h
  unfold World.shape? at hs
  cases hb : W.heap[a.block]? with
  | none => rw [hb] at hs; cases hs
  | some o => exact (Array.getElem?_eq_some_iff.1 hb).1
noncomputable def inp : Input := ⟨#[], #[.slice none 0 0], []⟩
theorem laid_met (os : Os) : laidMet Tryd.prog Rows.messageReadsRow.laid ((laidWorld os inp).forCall (fun _ _ => 0) inp).memory :=
  laidMet_of_run' 8 (by kernel_rfl) (by kernel_rfl)
set_option maxHeartbeats 2000000 in
theorem lifted (os : Os) (started : os.Started) (H : Type) (enc : TypeId × Value → H) (F : Stop.Interp) :
    ReturnsInHanded {} Tryd.checked os 4 .any ((OpenSpec.ofChange Rows.messageReadsSpec).preRow enc Tryd.prog Tryd.f4 Rows.messageReadsRow.domain false Rows.messageReadsRow.laid) (((OpenSpec.ofChange Rows.messageReadsSpec).at F).post enc Tryd.prog Tryd.f4 false true false false) := by
  have hx : DataW.whole enc Tryd.prog ((laidWorld os inp).forCall (fun _ _ => 0) inp).memory Tryd.f4.params.toList Rows.messageReadsSpec.vars false inp.args.toList 8 = some ([.nil], [], []) := by kernel_rfl
  refine returnsInHanded_of_row (C := Tryd.checked) (s := OpenSpec.ofChange Rows.messageReadsSpec) ownOf started (by kernel_rfl) Tryd.func4
    (witness_row_at (enc := enc) (C := Tryd.checked) false (laidWorld os inp) #[.slice none 0 0] rfl (by kernel_rfl) (by kernel_rfl) (by kernel_rfl)
      (OpenSpec.preRow_of_cond 8 hx (by kernel_rfl) (fun k hk => by cases hk) (by kernel_rfl) (laid_met os))) ?_
  intro W base args ds gs before hval0 hW _ _ hsz hL _ _
  have hval : ∀ (j : Nat) t v, Tryd.f4.params[j]? = some t → args[j]? = some v → Value.okWide Tryd.prog W .any base t v := hval0
  have hW' := hW
  obtain ⟨p, q, hA0, hV, rfl, _, _⟩ := hW
  have hA : DataW.TrodAll enc Tryd.prog W 0 (fun _ => true) true Tryd.f4.params.toList args.toList ds p := hA0
  rw [Tryd.params4] at hA hval hsz
  obtain ⟨v0, d0, rfl, rfl, h0⟩ := trodAll_one hA
  obtain ⟨rfl, rfl⟩ := trodVars_none hV
  have h0k := h0
  obtain ⟨f0, hf0⟩ := h0
  clear hA0 hval0 hV
  simp only [List.append_nil] at hW'
  have lt0 : ∀ x ∈ p, x.block < W.heap.size := fun x hx => by simpa using hW'.lt x (by simp [hx])
  obtain ⟨a0, len0, cap0, rfl⟩ := okWide_slice Tryd.underlying28 (hval 0 28 v0 rfl rfl)
  have hblk : ∀ ad, a0 = some ad → ad.block < W.heap.size := fun ad e => slice_block (by rw [e] at hval; exact hval 0 28 _ rfl rfl)
  obtain ⟨A, c, l, e0, hlc, hAl, hd0⟩ := bytes_open hf0
  have e0' : Value.slice a0 len0 cap0 = .slice A l.length c := by
    have : [Value.slice a0 len0 cap0] = [.slice A l.length c] := e0
    injection this
  injection e0' with q0 q1 q2
  subst q0 q1 q2
  have hl : l.length ≤ 140737488351232 := sized_bytes hsz (j := 0) rfl rfl hd0
  clear e0 hf0 hval hd0 hsz
  refine (reads18_walk W a0 cap0 l hAl hl hlc hblk).mono fun e W' ⟨he, bel⟩ => ?_
  subst he
  have k0 := Below.trod laidOut (by kernel_rfl) (of_decide_eq_true (by kernel_rfl)) h0k bel lt0
  exact ⟨_, rfl, _, _, _, [], _, [], hW', trodAll_mk1 (shut_bool Tryd.underlying4 _), trodAll_mk1 k0, rfl, bel.frame _, fun h => by cases h⟩
theorem said : Rows.MessageReadsSaid :=
  OpenClaim.holds_of_cond 4 Tryd.f4 rfl rfl rfl rfl rfl rfl rfl ⟨rfl, rfl, rfl, rfl, rfl⟩ rfl rfl rfl rfl rfl (by kernel_rfl) Tryd.func4 (by kernel_rfl)
    (of_decide_eq_true (by kernel_rfl)) (by unfold Func.isWrapper; first | (rw [if_pos (by decide +kernel)]; kernel_rfl) | (rw [if_neg (by decide +kernel)]; exact ⟨rfl, rfl⟩))
    (fun os started H enc _ F => by rw [OpenClaim.pre_eq_preRow]; exact lifted os started H enc F)
/-- No parameter wants a stand-in; the program's own looks are off: what the card asks. -/
theorem plain (f : FuncId) (fn : Func) (hf : Tryd.pinned.checked.prog.funcNamed "millpond/millpondlaw18.MessageReads" = some f) (hfn : Tryd.pinned.checked.prog.funcs[f]? = some fn) :
    true = Tryd.pinned.checked.prog.looks [] ∧ ∀ (j : Nat) t, fn.params[j]? = some t → Tryd.pinned.checked.prog.wantsStandIn t = false := by
  obtain rfl : f = 4 := Option.some.inj ((show Tryd.prog.funcNamed "millpond/millpondlaw18.MessageReads" = some 4 by kernel_rfl).symm.trans hf) |>.symm
  obtain rfl : fn = Tryd.f4 := (Option.some.inj (Tryd.func4.symm.trans hfn)).symm
  refine ⟨by kernel_rfl, fun j t ht => ?_⟩
  rw [Tryd.params4] at ht
  obtain rfl : t = 28 := by simpa using Array.mem_of_getElem? ht
  exact (show Tryd.prog.wantsStandIn 28 = false by kernel_rfl)
theorem proved : Rows.MessageReadsCardSaid :=
  Claim7.holds_tied_plain_at .later [] _ _ _ _ said (fun _ h => by cases h) (by kernel_rfl) (fun _ h => by cases h) messageReads_row_tie rfl ⟨rfl, rfl⟩ (by kernel_rfl) rfl plain (by kernel_rfl)
#print axioms proved
end Go.Proofs.YtemmdlanidepbaaDoor.messageReads
