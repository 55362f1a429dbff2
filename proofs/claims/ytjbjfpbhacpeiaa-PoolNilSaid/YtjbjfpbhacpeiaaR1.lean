/- The pool's All: its contract; the contract of the iterator that it hands back. -/
import Derived.Test.YtjbjfpbhacpeiaaP2
import Derived.RangeFuncNested
import Derived.RangeFuncBound
import Derived.RangeFuncCalls
import Derived.RangeFuncLeaves
import Derived.RangeFuncFrom
import Derived.Shelf.Abstract
import Derived.Shelf.RegionOpen
import Derived.WalkKit
import Derived.OwnWalkIn
import Derived.TacticsInMore
import Derived.LoopNIn
import Derived.LoopIn
import Derived.Sort.CutIn
namespace Go.Proofs.Ytjbjfpbhacpeiaa
open Go.RowKit Go.Shelf
set_option linter.unusedSimpArgs false
set_option linter.unusedVariables false
set_option maxRecDepth 100000
attribute [local go_sem] Oper.semAt_some

section
variable {F : Fence} {n : Nat} {P : Program} {ops : Array Oper} {rest : List Oper} {o : Oper} {a : Act} {w : World} {Q : Exit → Act → World → Prop}
/-- an operation that yields a value, in a fence -/
theorem listIn_val (hw : Region.wanted o (yielded ops a.tmps) = true) (hF : ∀ f, F.fn f) (hd : ∀ c, o.op ≠ .defer c) (v : Value) (w' : World) (hr : (execOp a.eval o).run P w = .ok (.value v) w')
    (h : wpListIn F n P ops Q rest (a.put o.dst v) w') : wpListIn F n P ops Q (o :: rest) a w := by
  refine BigFrame.wpListIn_want hw fun K hK' => ?_
  unfold Oper.wpIn
  refine ⟨fun f _ => hF f, ?_⟩
  rw [Oper.semAt_plain F _ _ (fun c hc => hd c hc), hr]
  exact hK' _ _ h
theorem listIn_skip (hgd : o.guard = none) (hF : ∀ f, F.fn f) (hd : ∀ c, o.op ≠ .defer c) (w' : World) (hr : (execOp a.eval o).run P w = .ok .skip w')
    (h : wpListIn F n P ops Q rest (a.put o.dst undef) w') : wpListIn F n P ops Q (o :: rest) a w := by
  refine wpListIn_plain hgd fun K hK' => ?_
  unfold Oper.wpIn
  refine ⟨fun f _ => hF f, ?_⟩
  rw [Oper.semAt_plain F _ _ (fun c hc => hd c hc), hr]
  exact hK' _ _ h
theorem listIn_store_row (hgd : o.guard = none) (hF : ∀ f, F.fn f) (ty : TypeId) (x y : Operand) (ho : o.op = .store ty x y)
    (g : Nat) (cells : Array Value) (hx : a.eval x = .pointer (some ⟨g, 0, none⟩)) (hy : a.eval y = .agg cells)
    (t : TypeId) (old : Array Value) (hg : w.heap[g]? = some (.cells old t (0, 0))) (hi : (P.info? ty).map (·.size) = some cells.size)
    (hold : old.size = cells.size) (h1 : cells.all (·.oneCell') = true)
    (h : wpListIn F n P ops Q rest (a.put o.dst undef) (w.setRow g cells)) : wpListIn F n P ops Q (o :: rest) a w :=
  listIn_skip hgd hF (by rw [ho]; intro c hc; cases hc) _ (by
    unfold execOp
    simp only [ho, hx, hy, Instr.storeAt, Instr.sureAddr, Sem.run_bind, Sem.run_pure, Result.andThen_ok, run_storeVar_row w g t ty old cells hg hi hold h1]) h
theorem listIn_load_row (hw : Region.wanted o (yielded ops a.tmps) = true) (hF : ∀ f, F.fn f) (ty : TypeId) (x : Operand) (ho : o.op = .load ty x)
    (g : Nat) (cells : Array Value) (hx : a.eval x = .pointer (some ⟨g, 0, none⟩)) (hl : (loadVar ty ⟨g, 0, none⟩).run P w = .ok (.agg cells) w)
    (h : wpListIn F n P ops Q rest (a.put o.dst (.agg cells)) w) : wpListIn F n P ops Q (o :: rest) a w :=
  listIn_val hw hF (by rw [ho]; intro c hc; cases hc) _ w (by
    unfold execOp
    simp only [ho, hx, Instr.loadAt, Instr.sureAddr, Sem.run_bind, Sem.run_pure, Result.andThen_ok, hl]) h
end

theorem all_any (w : World) (A : Option Addr) : Calls Try.prog 40 #[.pointer A] w (fun e w' => e = .returned (.func (.func 47) #[] #[.pointer (some ⟨w.heap.size, 0, none⟩)]) ∧ w' = w.alloc (.cells #[.pointer A] 23)) := by
  go_enter Try.func40, Try.ntmps40
  go_wp2_with fail
  go_ret
  exact ⟨rfl, rfl⟩

/-- a frame whose numbers are numbers -/
abbrev OFr := { f : Fr // f.Ok }
/-- the frames that come, of a Look's answers -/
def seenV (v : Nat → OFr × Bool) (k : Nat) : List OFr := (List.range k).filterMap fun p => if (v p).2 = true then some (v p).1 else none
theorem seenV_yes {v : Nat → OFr × Bool} {k : Nat} (h : (v k).2 = true) : seenV v (k + 1) = seenV v k ++ [(v k).1] := by simp [seenV, List.range_succ, h]
theorem seenV_no {v : Nat → OFr × Bool} {k : Nat} (h : (v k).2 = false) : seenV v (k + 1) = seenV v k := by simp [seenV, List.range_succ, h]
theorem seenV_le (v : Nat → OFr × Bool) (k : Nat) : (seenV v k).length ≤ k := by
  have := List.length_filterMap_le (fun p => if (v p).2 = true then some (v p).1 else none) (List.range k)
  simpa [seenV] using this
theorem seenV_pre (v : Nat → OFr × Bool) {k j : Nat} (h : k ≤ j) : seenV v k <+: seenV v j := by
  induction j with
  | zero => rw [Nat.le_zero.1 h]; exact List.prefix_refl _
  | succ j ih =>
    by_cases e : k = j + 1
    · rw [e]; exact List.prefix_refl _
    · refine (ih (by omega)).trans ?_
      cases hv : (v j).2 with
      | false => rw [seenV_no hv]; exact List.prefix_refl _
      | true => rw [seenV_yes hv]; exact List.prefix_append _ _
abbrev encF (f : OFr) : Array Value := #[.agg (fA f.1)]

/-- what the iterator asks of the world: the box that holds the pool, Look's answers -/
structure Eye (Good : World → Prop) (g : Nat) (A : Option Addr) (v : Nat → OFr × Bool) : Prop where
  cell : ∀ W, Good W → W.cell? ⟨g, 0, none⟩ = some (.pointer A)
  look : ∀ W, Good W → ∀ k : Nat, k < 16 → Calls Try.prog 15 #[.pointer A, .int .i64 (k : Int)] W (fun e w' => e = .returned (.tuple #[.agg (fA (v k).1.1), .bool (v k).2]) ∧ Below W.heap.size W w')
  keep : ∀ W W', Good W → Below W.heap.size W W' → Good W'

set_option maxHeartbeats 4000000 in
theorem all1_in (n : Nat) (hn : 1 ≤ n) (l g N : Nat) (A : Option Addr) (v : Nat → OFr × Bool) (Good : World → Prop) (hE : Eye Good g A v) (hN : (seenV v 16).length ≤ N) (Kp : World → World → Prop) (hKp : ∀ W W', Good W → Kp W W' → Good W')
    (J Jx : List OFr → World → Prop)
    (hY : ∀ pre x W1, J pre W1 → pre.length < N → YieldAt Fence.wide (n - 1) Try.prog l (encF x) W1 fun e W' =>
      (e = .returned (.bool true) ∧ J (pre ++ [x]) W' ∧ Kp W1 W') ∨ (e = .returned (.bool false) ∧ Jx (pre ++ [x]) W'))
    (W : World) (hG : Good W) (hJ : AbidesFrom W.heap.size J) (h0 : J [] W) :
    CallsIn Fence.wide n Try.prog 47 #[.func (.yield l) #[] #[], .pointer (some ⟨g, 0, none⟩)] W fun e W' => (∃ v, e = .returned v) ∧
      ((∃ xs, xs = seenV v 16 ∧ J xs W') ∨ (∃ pre, (∃ k, k ≤ 16 ∧ pre = seenV v k) ∧ Jx pre W')) := by
  refine callsIn_of_wp Try.func47 rfl trivial ?_ rfl
  simp only [Try.ntmps47, List.size_toArray, List.length_cons, List.length_nil, Nat.reduceAdd, Nat.reduceSub, Array.replicate_succ, Array.replicate_zero, List.push_toArray, List.append_toArray, List.nil_append, List.cons_append]
  have hz := zfr
  gi_wp2_with fail
  gi_loopw [6] (fun i wr => ∃ k : Nat, k ≤ 16 ∧ i = .int .i64 k ∧ Hid (J (seenV v k) wr ∧ Good wr)) (fun i _ => 16 - (intOf i).toNat)
  case atStart => exact ⟨0, by omega, rfl, Lib.hid ⟨h0, hG⟩⟩
  case round =>
    obtain ⟨k, hk, rfl, hjg⟩ := hrel
    by_cases hlt : k = 16
    · subst hlt
      gi_wp2_with fail
      go_end0
      exact ⟨⟨_, rfl⟩, .inl ⟨_, rfl, hjg.out.1⟩⟩
    · have hlt : k < 16 := by omega
      have cg := hE.cell _ hjg.out.2
      have HL := Lib.hid (hE.look _ hjg.out.2 k hlt)
      have HO := Lib.hid (v k).1.2
      have hJs := hjg.out.1
      have hGs := hjg.out.2
      cases hv : (v k).2 with
      | false =>
        rw [hv] at HL
        have HS := Lib.hid (seenV_no hv)
        gi_wp2_with (first | (refine ⟨trivial, ?_⟩; gi_at_call 15; refine (callsIn_wide.2 HL.out).mono ?_; rintro e w1 ⟨rfl, hb⟩) | (refine listIn_store_row rfl (fun _ => trivial) 39 (.tmp 4) (.tmp 13) rfl _ (fA (v k).1.1) rfl rfl 39 _ (heap_alloc_new _ (.cells (fA fr0) 39)) (infoFrA HO.out) (fA_size fr0_ok HO.out) (fv_all _) ?_; rw [World.setRow_alloc_new]) | (refine wpListIn_skip rfl rfl ?_))
        have hb2 : Below wr.heap.size wr (w1.alloc (.cells (fA (v k).1.1) 39)) := hb.trans ((Below.refl _ w1).alloc hb.size _)
        have h3 : J (seenV v (k + 1)) (w1.alloc (.cells (fA (v k).1.1) 39)) := by
          rw [HS.out]
          exact hJ _ _ _ none hJs (grown_of_below hb2 none) (by simp)
        go_roundw
        case rel => exact ⟨k + 1, by omega, by simp, Lib.hid ⟨h3, hE.keep _ _ hGs hb2⟩⟩
        case measure => simp [intOf]; omega
      | true =>
        rw [hv] at HL
        have HS := Lib.hid (seenV_yes hv)
        have hlen : (seenV v k).length < N := by
          have h1 := (seenV_pre v (k := k + 1) (j := 16) (by omega)).length_le
          rw [seenV_yes hv, List.length_append, List.length_singleton] at h1
          omega
        gi_wp2_with (first | (refine ⟨trivial, ?_⟩; gi_at_call 15; refine (callsIn_wide.2 HL.out).mono ?_; rintro e w1 ⟨rfl, hb⟩) | (refine listIn_store_row rfl (fun _ => trivial) 39 (.tmp 4) (.tmp 13) rfl _ (fA (v k).1.1) rfl rfl 39 _ (heap_alloc_new _ (.cells (fA fr0) 39)) (infoFrA HO.out) (fA_size fr0_ok HO.out) (fv_all _) ?_; rw [World.setRow_alloc_new]) | (refine listIn_load_row rfl (fun _ => trivial) 39 (.tmp 4) rfl _ (fA (v k).1.1) rfl (run_loadVar_row _ _ 39 39 (fA (v k).1.1) (0, 0) _ (heap_alloc_new _ (.cells (fA (v k).1.1) 39)) Try.underlying39 rfl (infoFrA HO.out)) ?_))
        have hb2 : Below wr.heap.size wr (w1.alloc (.cells (fA (v k).1.1) 39)) := hb.trans ((Below.refl _ w1).alloc hb.size _)
        have h3 : J (seenV v k) (w1.alloc (.cells (fA (v k).1.1) 39)) := hJ _ _ _ none hJs (grown_of_below hb2 none) (by simp)
        have hG3 := hE.keep _ _ hGs hb2
        obtain ⟨fn, tmps, assign, body, hy, hR⟩ := hY _ (v k).1 _ h3 hlen
        rw [show encF (v k).1 = #[.agg (fA (v k).1.1)] from rfl] at hy
        have HR := Lib.hid hR
        clear hR hb hb2 h3
        rw [hy]
        try gi_wp2_with fail
        refine HR.out.mono ?_
        rintro e W3 (⟨rfl, hJ3, hk3⟩ | ⟨rfl, hJx3⟩)
        · gi_wp2_with fail
          go_roundw
          case rel => exact ⟨k + 1, by omega, by simp, Lib.hid ⟨by rw [HS.out]; exact hJ3, hKp _ _ hG3 hk3⟩⟩
          case measure => simp [intOf]; omega
        · gi_wp2_with fail
          refine bodyPost_ret (results_none rfl _ _ _) rfl ?_
          exact ⟨⟨_, rfl⟩, .inr ⟨_, ⟨k + 1, by omega, rfl⟩, by rw [HS.out]; exact hJx3⟩⟩
theorem all_stops (n : Nat) (hn : 1 ≤ n) (g N : Nat) (A : Option Addr) (v : Nat → OFr × Bool) (Good : World → Prop) (hE : Eye Good g A v) (hN : (seenV v 16).length ≤ N) (Kp : World → World → Prop) (hKp : ∀ W W', Good W → Kp W W' → Good W') (w : World) (hG : Good w) :
    SeqStopsK Fence.wide n Try.prog 47 #[.pointer (some ⟨g, 0, none⟩)] encF Kp (fun xs => xs = seenV v 16) (fun pre => ∃ k, k ≤ 16 ∧ pre = seenV v k) N w :=
  fun l J Jx W hW hJ _ hY h0 => all1_in n hn l g N A v Good hE hN Kp hKp J Jx hY W (hE.keep _ _ hG hW) hJ h0
end Go.Proofs.Ytjbjfpbhacpeiaa
