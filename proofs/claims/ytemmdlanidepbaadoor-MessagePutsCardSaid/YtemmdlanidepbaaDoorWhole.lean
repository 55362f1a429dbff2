/- Contracts of whole's deferred closure. -/
import Derived.Test.YtemmdlanidepbaaDoorReadC
import Derived.Tactics2
import Derived.Defers
import Derived.Recover
import Derived.Laws.Pointers
namespace Go.Proofs.YtemmdlanidepbaaDoor
open Go.RowKit
set_option linter.unusedSimpArgs false
set_option maxRecDepth 100000

theorem assert_nil (w : World) : (Instr.typeAssert .nilIface 20 115 true).run Tryd.prog w = .ok (.tuple #[.agg #[], .bool false]) w := by kernel_rfl
theorem assert_wrong (w : World) : (Instr.typeAssert (.iface 115 (.agg #[])) 20 115 true).run Tryd.prog w = .ok (.tuple #[.agg #[], .bool true]) w := by kernel_rfl
theorem zero_all : Tryd.zeroCells27.all (·.oneCell') = true := by
  have h := set_all 0
  have e : Tryd.zeroCells27.setIfInBounds 0 (.int .i64 0) = Tryd.zeroCells27 := by kernel_rfl
  rwa [e] at h
set_option maxHeartbeats 4000000 in
theorem catch_idle (px pe : Addr) (w : World) :
    CallsD Tryd.prog 70 #[.pointer (some px), .pointer (some pe)] .returning w fun e u' w' => e = .returned (.tuple #[]) ∧ u' = .returning ∧ Below w.heap.size w w' := by
  refine callsD_of_wpS Tryd.func70 rfl fun c₀ cs hu => ?_
  apply wpS_seq
  apply wpS_region
  simp [wpOpsS, go_sem, recoverD, hu, assert_nil, Tryd.ntmps70, Exit.thenS]
  apply wpS_seq
  apply wpS_region
  simp [wpOpsS, go_sem, Exit.thenS]
  refine wpS_cond (t := false) (by simp [Act.eval, Array.replicate]) ?_
  simp only [Bool.false_eq_true, if_false]
  refine wpS_of_wp (wp_skip ?_)
  have hb := (Below.refl w.heap.size w).alloc (Nat.le_refl _) (.cells #[] 115)
  cases c₀
  simp_all [bodyPostS, results, Tryd.results70]
set_option maxHeartbeats 4000000 in
theorem catch_wrong (px pe : Nat) (w : World) (cs0 : Array Value) (hx : w.heap[px]? = some (.cells cs0 27 (0, 0))) (hs : cs0.size = 103) (he : w.heap[pe]? = some (.cells #[.int .i64 0] 29 (0, 0))) (hne : px ≠ pe) :
    CallsD Tryd.prog 70 #[.pointer (some ⟨px, 0, none⟩), .pointer (some ⟨pe, 0, none⟩)] (.panicking WRONG) w fun e u' w' => e = .returned (.tuple #[]) ∧ u' = .panicking [{ v := .iface 115 (.agg #[]), recovered := true }] ∧
      w'.heap[px]? = some (.cells Tryd.zeroCells27 27 (0, 0)) ∧ w'.heap[pe]? = some (.cells #[.int .i64 4] 29 (0, 0)) ∧ (∀ k, k < w.heap.size → k ≠ px → k ≠ pe → w'.heap[k]? = w.heap[k]?) ∧ w.heap.size ≤ w'.heap.size ∧ w'.os = w.os ∧ w'.tape = w.tape ∧ w'.output = w.output := by
  refine callsD_of_wpS Tryd.func70 rfl fun c₀ cs hu => ?_
  unfold WRONG at hu
  apply wpS_seq
  apply wpS_region
  simp [wpOpsS, go_sem, recoverD, hu, assert_wrong, Tryd.ntmps70, Exit.thenS]
  apply wpS_seq
  apply wpS_region
  simp [wpOpsS, go_sem, Exit.thenS]
  refine wpS_cond (t := true) (by simp [Act.eval, Array.replicate]) ?_
  simp only [if_true]
  refine wpS_of_wp ?_
  have hbw := (Below.refl w.heap.size w).alloc (Nat.le_refl _) (.cells #[] 115)
  have hx1 : (w.alloc (.cells #[] 115)).heap[px]? = some (.cells cs0 27 (0, 0)) := (hbw.block px (Array.getElem?_eq_some_iff.1 hx).1).trans hx
  have he1 : (w.alloc (.cells #[] 115)).heap[pe]? = some (.cells #[.int .i64 0] 29 (0, 0)) := (hbw.block pe (Array.getElem?_eq_some_iff.1 he).1).trans he
  have hg1 := grown_of_below hbw none
  have hxl := (Array.getElem?_eq_some_iff.1 hx).1
  have hel := (Array.getElem?_eq_some_iff.1 he).1
  have hs1 : w.heap.size ≤ (w.alloc (.cells #[] 115)).heap.size := by simp
  have hG := Lib.hid hg1
  clear hbw hg1
  generalize w.alloc (.cells #[] 115) = w1 at *
  have ht : (#[.pointer (some ⟨px, 0, none⟩), .pointer (some ⟨pe, 0, none⟩)] ++ ((((((((Array.replicate 10 undef).setIfInBounds 4 (.iface 115 (.agg #[]))).setIfInBounds 5 (.tuple #[.agg #[], .bool true])).setIfInBounds 3 (.tuple #[.agg #[], .bool true])).setIfInBounds 6 (.agg #[])).setIfInBounds 7 (.bool true)).setIfInBounds 0 (.pointer (some ⟨w.heap.size, 0, none⟩))).setIfInBounds 1 (.bool true)).setIfInBounds 8 (.bool true) : Array Value) =
    #[.pointer (some ⟨px, 0, none⟩), .pointer (some ⟨pe, 0, none⟩), .pointer (some ⟨w.heap.size, 0, none⟩), .bool true, undef, .tuple #[.agg #[], .bool true], .iface 115 (.agg #[]), .tuple #[.agg #[], .bool true], .agg #[], .bool true, .bool true, undef] := by simp [Array.replicate]
  rw [ht]
  clear ht
  have hi : (Tryd.prog.info? 27).map (·.size) = some Tryd.zeroCells27.size := by rw [zero_size]; exact infoMsg
  have HI := Lib.hid hi
  have HS := Lib.hid (hs.trans zero_size.symm)
  have hx2 := ((Below.refl w1.heap.size w1).alloc (Nat.le_refl _) (.cells Tryd.zeroCells27 27)).block px (Nat.lt_of_lt_of_le hxl hs1) |>.trans hx1
  have hba := (Below.refl w1.heap.size w1).alloc (Nat.le_refl _) (.cells Tryd.zeroCells27 27)
  have hsr := setRow_grown (w1.alloc (.cells Tryd.zeroCells27 27)) px Tryd.zeroCells27
  have hss : w1.heap.size ≤ (w1.alloc (.cells Tryd.zeroCells27 27)).heap.size := hba.size
  have he2 : ((w1.alloc (.cells Tryd.zeroCells27 27)).setRow px Tryd.zeroCells27).heap[pe]? = some (.cells #[.int .i64 0] 29 (0, 0)) := (hsr.block pe (by omega) (fun e => hne (by injection e with e; exact e.symm))).trans ((hba.block pe (by omega)).trans he1)
  have c0 : ((w1.alloc (.cells Tryd.zeroCells27 27)).setRow px Tryd.zeroCells27).cell? ⟨pe, 0, none⟩ = some (.int .i64 0) := by rw [cell_of_row _ pe 0 _ _ (0, 0) he2]; rfl
  have f0 : ((w1.alloc (.cells Tryd.zeroCells27 27)).setRow px Tryd.zeroCells27).frozen? ⟨pe, 0, none⟩ = false := by simp [World.frozen?, he2]
  clear hi
  go_wp2_with (first | (refine wpList_load_row rfl 27 (.tmp 4) rfl w1.heap.size rfl 27 Tryd.zeroCells27 (0, 0) _ (heap_alloc_new w1 _) Tryd.underlying27 rfl HI.out ?_) | (refine wpList_store_row rfl 27 (.tmp 0) (.tmp 11) rfl px Tryd.zeroCells27 rfl rfl 27 cs0 hx2 HI.out HS.out zero_all ?_))
  have hc5 : (((w1.alloc (.cells Tryd.zeroCells27 27)).setRow px Tryd.zeroCells27).setCell ⟨pe, 0, none⟩ (.int .i64 4)).heap[pe]? = some (.cells #[.int .i64 4] 29 (0, 0)) := by simp [World.setCell, Array.getElem?_modify, he2]
  have hk5 : ∀ k, k ≠ pe → (((w1.alloc (.cells Tryd.zeroCells27 27)).setRow px Tryd.zeroCells27).setCell ⟨pe, 0, none⟩ (.int .i64 4)).heap[k]? = ((w1.alloc (.cells Tryd.zeroCells27 27)).setRow px Tryd.zeroCells27).heap[k]? := by
    intro k hk
    have : pe ≠ k := fun e => hk e.symm
    simp [World.setCell, Array.getElem?_modify, this]
  have hx5 := (hk5 px hne).trans (setRow_at (cs := Tryd.zeroCells27) hx2)
  have hs5 : (((w1.alloc (.cells Tryd.zeroCells27 27)).setRow px Tryd.zeroCells27).setCell ⟨pe, 0, none⟩ (.int .i64 4)).heap.size = ((w1.alloc (.cells Tryd.zeroCells27 27)).setRow px Tryd.zeroCells27).heap.size := by simp [World.setCell]
  have ho5 : (((w1.alloc (.cells Tryd.zeroCells27 27)).setRow px Tryd.zeroCells27).setCell ⟨pe, 0, none⟩ (.int .i64 4)).os = w.os ∧ (((w1.alloc (.cells Tryd.zeroCells27 27)).setRow px Tryd.zeroCells27).setCell ⟨pe, 0, none⟩ (.int .i64 4)).tape = w.tape ∧
    (((w1.alloc (.cells Tryd.zeroCells27 27)).setRow px Tryd.zeroCells27).setCell ⟨pe, 0, none⟩ (.int .i64 4)).output = w.output := ⟨(hsr.os.trans hba.os).trans hG.out.os, (hsr.tape.trans hba.tape).trans hG.out.tape, (hsr.output.trans hba.output).trans hG.out.output⟩
  have hkk : ∀ k, k < w.heap.size → k ≠ px → k ≠ pe → (((w1.alloc (.cells Tryd.zeroCells27 27)).setRow px Tryd.zeroCells27).setCell ⟨pe, 0, none⟩ (.int .i64 4)).heap[k]? = w.heap[k]? := by
    intro k hk h1 h2
    rw [hk5 k h2, hsr.block k (by omega) (fun e => h1 (by injection e)), hba.block k (by omega), hG.out.block k hk (by simp)]
  have hsz := hs5 ▸ Nat.le_trans hs1 (Nat.le_trans hss hsr.size)
  clear hk5 hs5 hsr hba he2 c0 f0 hss
  generalize ((w1.alloc (.cells Tryd.zeroCells27 27)).setRow px Tryd.zeroCells27).setCell ⟨pe, 0, none⟩ (.int .i64 4) = w5 at *
  simp only [bodyPostS, results, Tryd.results70]
  exact ⟨trivial, _, rfl, .tuple #[], by simp, rfl, rfl, hx5, hc5, hkk, hsz, ho5⟩
end Go.Proofs.YtemmdlanidepbaaDoor
