/- The law MessageDatagrams returns true; its arguments read as before. No condition, but that the listed tables of the library lie as its text lays them, which the card ties. -/
import Derived.Test.YtemmdlanidepbaaDoorCards
import Derived.Test.YtemmdlanidepbaaDoorTie
import Derived.Test.YtemmdlanidepbaaDoorArgs18
import Derived.Test.YtemmdlanidepbaaDoorDgLaw
import Derived.ProofKit
import Derived.OpenShut
namespace Go.Proofs.YtemmdlanidepbaaDoor
open Go.ChangeShapes Go.WideShapes Go.ChangeAt Go.RowKit
set_option maxRecDepth 100000
section
variable {H : Type} {enc : TypeId × Value → H} {W : World} {base : Nat} {held : Bool}
/-- a datagram -/
theorem dg_open {fuel : Nat} {cs : List Value} {x : DataW H × List MemPlace} (h : DataW.trod enc Tryd.prog W base (fun _ => true) held fuel 53 cs = some x) :
    ∃ (d : Dg) (A : Option Addr) (c : Nat) (y0 y1 y2 y3 y4 d5 : DataW H), cs = (dcells d A c).toList ∧ At W A (bv d.body) ∧ x.1 = .agg [y0, y1, y2, y3, y4, d5] ∧ (d5 = .nil ∧ d.body = [] ∨ ∃ es sp, d5 = .slice es sp ∧ es.length = d.body.length) := by
  obtain ⟨xs, n, _, rfl, hl, hxl, hf⟩ := DataW.trod_struct Tryd.underlying53 h
  rw [show Tryd.prog.cellsOf 53 = 6 by kernel_rfl] at hl
  match cs, hl, xs, hxl with
  | [c0, c1, c2, c3, c4, c5], _, [y0, y1, y2, y3, y4, y5], _ =>
    have h0 : DataW.trod enc Tryd.prog W base (fun _ => true) held n 3 ((([c0, c1, c2, c3, c4, c5] : List Value).drop 0).take (Tryd.prog.cellsOf 3)) = some y0 := hf 0 _ rfl
    have h1 : DataW.trod enc Tryd.prog W base (fun _ => true) held n 3 ((([c0, c1, c2, c3, c4, c5] : List Value).drop 1).take (Tryd.prog.cellsOf 3)) = some y1 := hf 1 _ rfl
    have h2 : DataW.trod enc Tryd.prog W base (fun _ => true) held n 2 ((([c0, c1, c2, c3, c4, c5] : List Value).drop 2).take (Tryd.prog.cellsOf 2)) = some y2 := hf 2 _ rfl
    have h3 : DataW.trod enc Tryd.prog W base (fun _ => true) held n 2 ((([c0, c1, c2, c3, c4, c5] : List Value).drop 3).take (Tryd.prog.cellsOf 2)) = some y3 := hf 3 _ rfl
    have h4 : DataW.trod enc Tryd.prog W base (fun _ => true) held n 2 ((([c0, c1, c2, c3, c4, c5] : List Value).drop 4).take (Tryd.prog.cellsOf 2)) = some y4 := hf 4 _ rfl
    have h5 : DataW.trod enc Tryd.prog W base (fun _ => true) held n 28 ((([c0, c1, c2, c3, c4, c5] : List Value).drop 5).take (Tryd.prog.cellsOf 28)) = some y5 := hf 5 _ rfl
    clear hf
    rw [show Tryd.prog.cellsOf 3 = 1 by kernel_rfl] at h0 h1
    rw [show Tryd.prog.cellsOf 2 = 1 by kernel_rfl] at h2 h3 h4
    rw [show Tryd.prog.cellsOf 28 = 1 by kernel_rfl] at h5
    simp only [List.drop, List.take] at h0 h1 h2 h3 h4 h5
    obtain ⟨n0, e0, _⟩ := int_at Tryd.underlying3 h0
    obtain ⟨n1, e1, _⟩ := int_at Tryd.underlying3 h1
    obtain ⟨n2, e2, _⟩ := int_at Tryd.underlying2 h2
    obtain ⟨n3, e3, _⟩ := int_at Tryd.underlying2 h3
    obtain ⟨n4, e4, _⟩ := int_at Tryd.underlying2 h4
    obtain ⟨A, c, l, e5, _, hA, hx⟩ := bytes_open h5
    injection e0 with e0
    injection e1 with e1
    injection e2 with e2
    injection e3 with e3
    injection e4 with e4
    injection e5 with e5
    subst e0 e1 e2 e3 e4 e5
    exact ⟨⟨n0, n1, n2, n3, n4, l⟩, A, c, y0.1, y1.1, y2.1, y3.1, y4.1, y5.1, rfl, hA, rfl, hx⟩
end
namespace messageDatagrams
theorem slice_block {W : World} {base len cap : Nat} {a : Addr} (h : Value.okWide Tryd.prog W .any base 28 (.slice (some a) len cap)) : a.block < W.heap.size := by
  simp only [Value.okWide, Tryd.underlying28, Cell.okWide, Cell.ok] at h
  obtain ⟨_, _, _, _, row, cells, hs, _⟩ := h
  unfold World.shape? at hs
  cases hb : W.heap[a.block]? with
  | none => rw [hb] at hs; cases hs
  | some o => exact (Array.getElem?_eq_some_iff.1 hb).1
noncomputable def inp : Input := ⟨#[], #[.agg zeroDg, .slice none 0 0], []⟩
theorem laid_met (os : Os) : laidMet Tryd.prog Rows.messageDatagramsRow.laid ((laidWorld os inp).forCall (fun _ _ => 0) inp).memory :=
  laidMet_of_run' 8 (by kernel_rfl) (by kernel_rfl)
def zeroD {H : Type} : DataW H := .agg [.lit (.int .i64 0), .lit (.int .i64 0), .lit (.int .i64 0), .lit (.int .i64 0), .lit (.int .i64 0), .nil]
set_option maxHeartbeats 2000000 in
theorem lifted (os : Os) (started : os.Started) (H : Type) (enc : TypeId × Value → H) (F : Stop.Interp) :
    ReturnsInHanded {} Tryd.checked os 6 .any ((OpenSpec.ofChange Rows.messageDatagramsSpec).preRow enc Tryd.prog Tryd.f6 Rows.messageDatagramsRow.domain false Rows.messageDatagramsRow.laid) (((OpenSpec.ofChange Rows.messageDatagramsSpec).at F).post enc Tryd.prog Tryd.f6 false true false false) := by
  have hx : DataW.whole enc Tryd.prog ((laidWorld os inp).forCall (fun _ _ => 0) inp).memory Tryd.f6.params.toList Rows.messageDatagramsSpec.vars false inp.args.toList 8 = some ([zeroD, .nil], [], []) := by kernel_rfl
  refine returnsInHanded_of_row (C := Tryd.checked) (s := OpenSpec.ofChange Rows.messageDatagramsSpec) ownOf started (by kernel_rfl) Tryd.func6
    (witness_row_at (enc := enc) (C := Tryd.checked) false (laidWorld os inp) #[.agg zeroDg, .slice none 0 0] rfl (by kernel_rfl) (by kernel_rfl) (by kernel_rfl)
      (OpenSpec.preRow_of_cond 8 hx (by kernel_rfl) (fun k hk => by cases hk) (by kernel_rfl) (laid_met os))) ?_
  intro W base args ds gs before hval0 hW _ _ hsz hL _ _
  have hval : ∀ (j : Nat) t v, Tryd.f6.params[j]? = some t → args[j]? = some v → Value.okWide Tryd.prog W .any base t v := hval0
  have hW' := hW
  obtain ⟨p, q, hA0, hV, rfl, _, _⟩ := hW
  have hA : DataW.TrodAll enc Tryd.prog W 0 (fun _ => true) true Tryd.f6.params.toList args.toList ds p := hA0
  rw [Tryd.params6] at hA hval hsz
  obtain ⟨v0, v1, d0, d1, p0, p1, rfl, rfl, rfl, h0, h1⟩ := trodAll_two hA
  obtain ⟨rfl, rfl⟩ := trodVars_none hV
  have h0k := h0
  have h1k := h1
  obtain ⟨f0, hf0⟩ := h0
  obtain ⟨f1, hf1⟩ := h1
  clear hA0 hval0 hV
  simp only [List.append_nil] at hW'
  have lt0 : ∀ x ∈ p0, x.block < W.heap.size := fun x hx => by simpa using hW'.lt x (by simp [hx])
  have lt1 : ∀ x ∈ p1, x.block < W.heap.size := fun x hx => by simpa using hW'.lt x (by simp [hx])
  obtain ⟨cs, rfl, _⟩ := okWide_struct Tryd.underlying53 (hval 0 53 v0 rfl rfl)
  obtain ⟨a1, len1, cap1, rfl⟩ := okWide_slice Tryd.underlying28 (hval 1 28 v1 rfl rfl)
  have hblk : ∀ ad, a1 = some ad → ad.block < W.heap.size := fun ad e => slice_block (by rw [e] at hval; exact hval 1 28 _ rfl rfl)
  obtain ⟨d, A, c, y0, y1, y2, y3, y4, d5, e0, hAd, ed0, hd5⟩ := dg_open hf0
  obtain ⟨A2, c2, l, e1, hlc, hA2, hd1⟩ := bytes_open hf1
  have ecs : cs = dcells d A c := by
    have : cs.toList = (dcells d A c).toList := e0
    exact Array.toList_inj.1 this
  subst ecs
  have e1' : Value.slice a1 len1 cap1 = .slice A2 l.length c2 := by
    have : [Value.slice a1 len1 cap1] = [.slice A2 l.length c2] := e1
    injection this
  injection e1' with q0 q1 q2
  subst q0 q1 q2
  have hl : l.length ≤ 140737488351232 := sized_bytes hsz (j := 1) rfl rfl hd1
  have hdl : d.body.length ≤ 140737488351232 := by
    have ed0' : d0 = .agg [y0, y1, y2, y3, y4, d5] := ed0
    subst ed0'
    exact sized_bytes (sized_agg hsz (j := 0) rfl rfl Tryd.underlying53) (j := 5) rfl rfl hd5
  clear e0 e1 hf0 hf1 hval
  refine (dgrams_any W d A c hAd a1 cap1 l hA2 hlc hblk hl hdl).mono fun e W' ⟨he, bel⟩ => ?_
  subst he
  have k0 := Below.trod laidOut (by kernel_rfl) (of_decide_eq_true (by kernel_rfl)) h0k bel lt0
  have k1 := Below.trod laidOut (by kernel_rfl) (of_decide_eq_true (by kernel_rfl)) h1k bel lt1
  exact ⟨_, rfl, _, _, _, [], _, [], hW', trodAll_mk1 (shut_bool Tryd.underlying4 _), trodAll_mk2 k0 k1, rfl, bel.frame _, fun h => by cases h⟩
theorem said : Rows.MessageDatagramsSaid :=
  OpenClaim.holds_of_cond 6 Tryd.f6 rfl rfl rfl rfl rfl rfl rfl ⟨rfl, rfl, rfl, rfl, rfl⟩ rfl rfl rfl rfl rfl (by kernel_rfl) Tryd.func6 (by kernel_rfl)
    (of_decide_eq_true (by kernel_rfl)) (by unfold Func.isWrapper; first | (rw [if_pos (by decide +kernel)]; kernel_rfl) | (rw [if_neg (by decide +kernel)]; exact ⟨rfl, rfl⟩))
    (fun os started H enc _ F => by rw [OpenClaim.pre_eq_preRow]; exact lifted os started H enc F)
/-- No parameter wants a stand-in; the program's own looks are off: what the card asks. -/
theorem plain (f : FuncId) (fn : Func) (hf : Tryd.pinned.checked.prog.funcNamed "millpond/millpondlaw18.MessageDatagrams" = some f) (hfn : Tryd.pinned.checked.prog.funcs[f]? = some fn) :
    true = Tryd.pinned.checked.prog.looks [] ∧ ∀ (j : Nat) t, fn.params[j]? = some t → Tryd.pinned.checked.prog.wantsStandIn t = false := by
  obtain rfl : f = 6 := Option.some.inj ((show Tryd.prog.funcNamed "millpond/millpondlaw18.MessageDatagrams" = some 6 by kernel_rfl).symm.trans hf) |>.symm
  obtain rfl : fn = Tryd.f6 := (Option.some.inj (Tryd.func6.symm.trans hfn)).symm
  refine ⟨by kernel_rfl, fun j t ht => ?_⟩
  rw [Tryd.params6] at ht
  have hm := Array.mem_of_getElem? ht
  simp only [List.mem_toArray, List.mem_cons, List.not_mem_nil, or_false] at hm
  rcases hm with rfl | rfl
  · exact (show Tryd.prog.wantsStandIn 53 = false by kernel_rfl)
  · exact (show Tryd.prog.wantsStandIn 28 = false by kernel_rfl)
theorem proved : Rows.MessageDatagramsCardSaid :=
  Claim7.holds_tied_plain_at .later [] _ _ _ _ said (fun _ h => by cases h) (by kernel_rfl) (fun _ h => by cases h) messageDatagrams_row_tie rfl ⟨rfl, rfl⟩ (by kernel_rfl) rfl plain (by kernel_rfl)
#print axioms proved
end messageDatagrams
end Go.Proofs.YtemmdlanidepbaaDoor
