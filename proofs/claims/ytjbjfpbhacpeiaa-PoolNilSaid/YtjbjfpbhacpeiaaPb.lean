/- Structs built out of parts. -/
import Derived.Test.YtjbjfpbhacpeiaaP4
import Derived.Test.YtjbjfpbhacpeiaaPe
namespace Go.Proofs.Ytjbjfpbhacpeiaa
open Go.RowKit
set_option linter.unusedSimpArgs false
set_option linter.unusedVariables false
set_option maxRecDepth 100000

theorem fold_patch : ∀ (vs : List Value) (k : Nat) (A : List Value) (o : Nat), o + k + vs.length ≤ A.length → (vs.zipIdx k).foldl (fun (cs : Array Value) (x : Value × Nat) => cs.setIfInBounds (o + x.2) x.1) A.toArray = (patch A (o + k) vs).toArray
  | [], k, A, o, _ => by simp [patch]
  | v :: vs, k, A, o, h => by
    simp only [List.length_cons] at h
    rw [List.zipIdx_cons, List.foldl_cons]
    have e : (A.toArray.setIfInBounds (o + (v, k).2) (v, k).1) = (A.set (o + k) v).toArray := by simp
    rw [e, fold_patch vs (k + 1) (A.set (o + k) v) o (by rw [List.length_set]; omega), show o + (k + 1) = o + k + 1 by omega, patch_cons A (o + k) v vs (by omega)]
theorem fill_cons {place : Nat → Option (Nat × Nat)} {A : List Value} {i off size : Nat} {v : Value} {rest : List (Nat × Value)} (hp : place i = some (off, size)) (hs : v.cells.size = size) (hl : off + size ≤ A.length) :
    Instr.fill place A.toArray ((i, v) :: rest) = Instr.fill place (patch A off v.cells.toList).toArray rest := by
  have h1 : ¬ ((v.cells.size ≠ size || decide (off + v.cells.size > A.toArray.size)) = true) := by
    rw [hs]; simp; omega
  rw [Instr.fill, hp]
  simp only
  rw [if_neg (by simpa using h1)]
  congr 1
  have := fold_patch v.cells.toList 0 A off (by simp [hs]; omega)
  rw [Nat.add_zero] at this
  rw [← this, ← Array.foldl_toList]
  congr 1
  simp
section
variable {P : Program}
theorem built_of {t : TypeId} {fields : Array Field} {z : Value} {places : List (Nat × Nat)} (hz : (P.info? t).bind (·.zero) = some z) (hu : P.underlying t = some (.struct fields))
    (hp : fields.toList.mapM (fun f => (P.info? f.type).map fun i => (f.offset, i.size)) = some places) (parts : List (Nat × Value)) : P.built t parts = Instr.fill (places.toArray[·]?) z.cells parts := by
  unfold Program.built
  cases hi : P.info? t with
  | none => rw [hi] at hz; cases hz
  | some it =>
    rw [hi] at hz
    simp only [Option.bind_some] at hz
    simp only [hu, hz, hp]
end
/-! ### the four structs -/
theorem zi66 : (Try.prog.info? 66).bind (·.zero) = some (.agg pzA) := by kernel_rfl
theorem pl66 : ∃ fs, Try.prog.underlying 66 = some (.struct fs) ∧ fs.toList.mapM (fun f => (Try.prog.info? f.type).map fun i => (f.offset, i.size)) = some [(0, 1), (1, 1), (2, 1), (3, 102)] := ⟨_, Try.underlying66, by kernel_rfl⟩
def pA (l : Live) : Array Value := (pcells (some l)).toArray
theorem built_place (f : Fr) (hf : f.Ok) : Try.prog.built 66 [(0, .bool true), (1, .bool true), (3, .agg (fA f))] = some (pA ⟨true, 0, f⟩) := by
  obtain ⟨fs, hu, hp⟩ := pl66
  rw [built_of zi66 hu hp]
  have h0 : (fA f).size = 102 := by rw [fA, List.size_toArray, fcells_len hf]
  show Instr.fill _ (pcells none).toArray _ = _
  have n0 := pc_none_len
  rw [fill_cons (off := 0) (size := 1) rfl rfl (by omega), fill_cons (off := 1) (size := 1) rfl rfl (by rw [patch_len]; all_goals (first | omega | (show 0 + 1 ≤ _; omega)))]
  have e1 : patch (pcells none) 0 [.bool true] = (.bool true : Value) :: .bool false :: .int .i64 0 :: fcells fr0 := rfl
  have e2 : patch ((.bool true : Value) :: .bool false :: .int .i64 0 :: fcells fr0) 1 [.bool true] = (.bool true : Value) :: .bool true :: .int .i64 0 :: fcells fr0 := rfl
  show Instr.fill _ (patch (patch (pcells none) 0 [.bool true]) 1 [.bool true]).toArray _ = _
  rw [e1, e2, fill_cons (v := .agg (fA f)) (off := 3) (size := 102) rfl h0 (by simp [fcells_len fr0_ok])]
  show some _ = _
  congr 2
  show patch _ 3 (fcells f) = pcells (some ⟨true, 0, f⟩)
  unfold patch
  rw [show 3 + (fcells f).length = 105 by rw [fcells_len hf], List.drop_of_length_le (by simp [fcells_len fr0_ok])]
  simp [pcells]
end Go.Proofs.Ytjbjfpbhacpeiaa
