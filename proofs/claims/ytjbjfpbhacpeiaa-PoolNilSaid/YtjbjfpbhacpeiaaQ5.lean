/- Contracts of the document's New and Clear. -/
import Derived.Test.YtjbjfpbhacpeiaaQ3
import Derived.Test.YtjbjfpbhacpeiaaS1
import Derived.Laws.MakeOwn
namespace Go.Proofs.Ytjbjfpbhacpeiaa
open Go.RowKit
set_option linter.unusedSimpArgs false
set_option linter.unusedVariables false
set_option maxRecDepth 100000

theorem infoSl3 : (Try.prog.info? 84).map (fun i => (i.zero, i.size, i.bytes)) = some (some (.agg szA), 105, 168) := by kernel_rfl
def rowS (n : Nat) : Array Value := ((S0 n).s.flatMap scells).toArray
theorem made_row (n : Nat) : madeCells szA (n * 105) = rowS n := by
  have h := rep_cells (scells none) 105 n sc_none_len (by omega)
  have e : madeCells szA (n * 105) = Builtin.zeroCells szA n := by unfold madeCells Builtin.zeroCells; rw [szA_size]
  rw [e]
  apply Array.toList_inj.1
  rw [szA, h]
  show _ = (List.replicate n none).flatMap scells
  rw [List.flatMap_replicate, List.flatMap_replicate]
theorem make_row (w : World) (n : Nat) (hn : n ≤ 16) : (Instr.makeSlice 71 (.int .i64 (n : Int)) (.int .i64 (n : Int))).run Try.prog w = .ok (.slice (some ⟨w.heap.size, 0, none⟩) n n) (w.alloc (.cells (rowS n) 84)) := by
  cases hi : Try.prog.info? 84 with
  | none => have := infoSl3; rw [hi] at this; cases this
  | some i =>
    have h3 := infoSl3
    rw [hi] at h3
    simp only [Option.map_some, Option.some.injEq, Prod.mk.injEq] at h3
    obtain ⟨hz, hs, hb⟩ := h3
    have := run_make (P := Try.prog) w 71 84 i (.agg szA) Try.underlying71 hi hz .i64 .i64 (n : Int) (n : Int) (by omega) (Int.le_refl _) (by rw [hb]; omega) (by omega)
    rw [hs] at this
    simp only [Int.toNat_natCast] at this
    rw [show (Value.agg szA).cells = szA from rfl, made_row] at this
    exact this
theorem rnew_no (n : Int) (hn : ¬ (1 ≤ n ∧ n ≤ 16)) (w : World) : Calls Try.prog 8 #[.int .i64 n] w (fun e w' => e = .returned (.pointer none) ∧ w = w') := by
  by_cases h1 : 1 ≤ n
  · have h2 : 16 < n := by omega
    clear hn
    go_enter Try.func8, Try.ntmps8
    go_wp2_with fail
    go_ret
    exact ⟨rfl, rfl⟩
  · clear hn
    go_enter Try.func8, Try.ntmps8
    go_wp2_with fail
    go_ret
    exact ⟨rfl, rfl⟩
theorem S0_len (n : Nat) : (S0 n).s.length = n := by simp [S0]
theorem refAt_new (w : World) (n : Nat) : RefAt ((w.alloc (.cells (rowS n) 84)).alloc (.cells #[.slice (some ⟨w.heap.size, 0, none⟩) n n, .int .i64 0] 73)) (w.heap.size + 1) w.heap.size (S0 n) := by
  refine ⟨?_, ?_⟩
  · have := PCells.new (w.alloc (.cells (rowS n) 84)) #[.slice (some ⟨w.heap.size, 0, none⟩) n n, .int .i64 0] 73
    rw [World.size_alloc] at this
    rw [S0_len]
    exact this
  · exact (PCells.new w (rowS n) 84).kept (T := fun _ => False) (Ex.alloc _ _ _) id
set_option maxHeartbeats 400000 in
theorem rnew_yes (n : Nat) (h1 : 1 ≤ n) (h2 : n ≤ 16) (w : World) : Calls Try.prog 8 #[.int .i64 (n : Int)] w (fun e w' => e = .returned (.pointer (some ⟨w.heap.size + 1, 0, none⟩)) ∧ RefAt w' (w.heap.size + 1) w.heap.size (S0 n) ∧ Below w.heap.size w w') := by
  have h1i : (1 : Int) ≤ (n : Int) := by omega
  have h2i : (n : Int) ≤ 16 := by omega
  have hmk := make_row w n h2
  have HR := Lib.hid (refAt_new w n)
  go_enter Try.func8, Try.ntmps8
  go_wp2_with fail
  go_ret
  refine ⟨by simp, ?_, ?_⟩
  · exact HR.out
  · exact ((Below.refl _ w).alloc (Nat.le_refl _) _).alloc (by simp) _
set_option maxHeartbeats 4000000 in
theorem rclear_any (w : World) (r q : Nat) {K : Int} {S : PS} (h : RefAt w r q S) (hS : S.Ok K) : Calls Try.prog 34 #[.pointer (some ⟨r, 0, none⟩)] w (fun e w' => e = .returned (.int .i64 (cntS S.s : Int)) ∧ RefAt w' r w.heap.size (clearS S) ∧ Ex (RB r q) w w') := by
  have HL := Lib.hid (rlen_any w r q h hS)
  have c0 := h.c0
  have hmk := make_row w S.s.length hS.len
  have hrlt := h.head.lt
  have hh1 := (h.head.kept (T := fun _ => False) (Ex.alloc _ w (.cells (rowS S.s.length) 84)) id)
  have c1 := h.c1
  have f0 := h.head.frozen 0
  have f1 := h.head.frozen 1
  have HH := Lib.hid h.head
  clear h hS hh1
  go_enter Try.func34, Try.ntmps34
  go_wp2_with fail
  refine HL.out.mono ?_
  rintro e w' ⟨rfl, rfl⟩
  go_wp2_with fail
  go_ret
  have h2 := (HH.out.set 0 (.slice (some ⟨w.heap.size, 0, none⟩) S.s.length S.s.length)).set 1 (.int .i64 0)
  have hsz : ((w.setCell ⟨r, 0, none⟩ (.slice (some ⟨w.heap.size, 0, none⟩) S.s.length S.s.length)).setCell ⟨r, 1, none⟩ (.int .i64 0)).heap.size = w.heap.size := by simp [World.setCell]
  have ex2 : Ex (RB r q) w ((w.setCell ⟨r, 0, none⟩ (.slice (some ⟨w.heap.size, 0, none⟩) S.s.length S.s.length)).setCell ⟨r, 1, none⟩ (.int .i64 0)) := (setCell_ex (T := RB r q) 0 _ w (.inl rfl)).trans (setCell_ex (T := RB r q) 1 _ _ (.inl rfl))
  generalize (w.setCell ⟨r, 0, none⟩ (.slice (some ⟨w.heap.size, 0, none⟩) S.s.length S.s.length)).setCell ⟨r, 1, none⟩ (.int .i64 0) = w2 at *
  refine ⟨rfl, ⟨?_, ?_⟩, ex2.trans (Ex.alloc _ _ _)⟩
  · have h3 := PCells.kept (T := fun _ => False) h2 (Ex.alloc _ w2 (.cells (rowS S.s.length) 84)) id
    unfold clearS
    rw [S0_len]
    exact h3
  · have h4 := PCells.new w2 (rowS S.s.length) 84
    rw [hsz] at h4
    exact h4
end Go.Proofs.Ytjbjfpbhacpeiaa
