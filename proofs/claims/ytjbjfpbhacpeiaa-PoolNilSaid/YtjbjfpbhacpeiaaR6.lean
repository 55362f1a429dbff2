/- The law's num and frame; frames loaded and compared under a guard. -/
import Derived.Test.YtjbjfpbhacpeiaaR5
import Derived.Test.YtjbjfpbhacpeiaaP9
namespace Go.Proofs.Ytjbjfpbhacpeiaa
open Go.RowKit
set_option linter.unusedSimpArgs false
set_option linter.unusedVariables false
set_option maxRecDepth 100000

def frF (p : Int) : Fr := { fr0 with page := p, mode := 1 }
theorem frF_ok {p : Int} (h : I64 p) : (frF p).Ok := ⟨h, (by unfold I64; decide : I64 1), i64_0, i64_0, i64_0, by simp [frF, fr0]⟩
theorem num_any (w : World) (n : Int) : Calls Try.prog 9 #[.int .i64 n] w (fun e w' => e = .returned (.int .i64 n) ∧ w = w') := by
  go_enter Try.func9, Try.ntmps9
  go_wp2_with fail
  go_ret
  exact ⟨rfl, rfl⟩
theorem zi39 : (Try.prog.info? 39).bind (·.zero) = some (.agg (fA fr0)) := by kernel_rfl
theorem pl39 : ∃ fs, Try.prog.underlying 39 = some (.struct fs) ∧ fs.toList.mapM (fun f => (Try.prog.info? f.type).map fun i => (f.offset, i.size)) = some [(0, 1), (1, 1), (2, 1), (3, 1), (4, 97), (101, 1)] := ⟨_, fr_under, by kernel_rfl⟩
theorem built_frame (p : Int) : Try.prog.built 39 [(0, .int .i64 p), (1, .int .i64 1)] = some (fA (frF p)) := by
  obtain ⟨fs, hu, hp⟩ := pl39
  rw [built_of zi39 hu hp]
  show Instr.fill _ (fcells fr0).toArray _ = _
  have n0 := fcells_len fr0_ok
  rw [fill_cons (off := 0) (size := 1) rfl rfl (by omega), fill_cons (off := 1) (size := 1) rfl rfl (by rw [patch_len]; all_goals (first | omega | (show 0 + 1 ≤ _; omega)))]
  show some _ = _
  congr 2
theorem fr1_end {fn : Func} {p : Tmp} (hr : fn.results = #[.cell p 39]) {R : Ending → World → Prop} {a : Act} {W : World} {g : Nat} {f : Fr} (hp : a.tmps.getD p undef = .pointer (some ⟨g, 0, none⟩)) (hd : a.defers = [])
    (hf : f.Ok) (hg : W.heap[g]? = some (.cells (fA f) 39 (0, 0))) (h : R (.returned (.agg (fA f))) W) : bodyPost Try.prog fn R .ret a W := by
  refine bodyPost_ret (v := .agg (fA f)) ?_ hd h
  have hp' : a.tmps[p]?.getD undef = .pointer (some ⟨g, 0, none⟩) := by simpa using hp
  have l1 := run_loadVar_row (P := Try.prog) W g 39 39 (fA f) (0, 0) _ hg Try.underlying39 rfl (infoFrA hf)
  simp [results, hr, hp', asAddr, l1]
theorem frame_any (w : World) (p : Int) (hp : I64 p) : Calls Try.prog 20 #[.int .i64 p] w (fun e w' => e = .returned (.agg (fA (frF p))) ∧ w' = w.alloc (.cells (fA (frF p)) 39)) := by
  have hz := zfr
  have HB := Lib.hid (built_frame p)
  have HO := Lib.hid (frF_ok hp)
  go_enter Try.func20, Try.ntmps20
  go_wp2_with (first | (refine wpList_build_list rfl 39 [(0, .tmp 3), (1, .const (.int .i64 1))] rfl (fA (frF p)) ?hb ?hh; case hb => exact HB.out) | (refine wpList_store_row rfl 39 (.tmp 2) (.tmp 4) rfl w.heap.size (fA (frF p)) rfl rfl 39 _ (heap_alloc_new w (.cells (fA fr0) 39)) (infoFrA HO.out) (fA_size fr0_ok HO.out) (fv_all _) ?_; rw [World.setRow_alloc_new]))
  exact fr1_end rfl rfl rfl HO.out (heap_alloc_new w _) ⟨rfl, rfl⟩
section
variable {ops : Array Oper} {rest : List Oper} {o : Oper} {a : Act} {w : World} {Q : Exit → Act → World → Prop}
/-- a frame loaded whole -/
theorem wpList_load_fr (hw : Region.wanted o (yielded ops a.tmps) = true) (x : Operand) (ho : o.op = .load 39 x) (g : Nat) (hx : a.eval x = .pointer (some ⟨g, 0, none⟩)) (f : Fr) (hf : f.Ok) (hg : w.heap[g]? = some (.cells (fA f) 39 (0, 0)))
    (h : wpList Try.prog ops Q rest (a.put o.dst (.agg (fA f))) w) : wpList Try.prog ops Q (o :: rest) a w :=
  BigFrame.wpList_want hw fun _ hK => wp_load_cells 39 x ho ⟨g, 0, none⟩ hx (fA f) (run_loadVar_row w g 39 39 (fA f) (0, 0) _ hg Try.underlying39 rfl (infoFrA hf)) (hK _ _ h)
end
end Go.Proofs.Ytjbjfpbhacpeiaa
