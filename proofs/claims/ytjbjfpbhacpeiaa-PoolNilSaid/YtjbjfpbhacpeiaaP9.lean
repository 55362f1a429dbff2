/- Contracts of the pool's Set, whole, and of New. -/
import Derived.Test.YtjbjfpbhacpeiaaP8
namespace Go.Proofs.Ytjbjfpbhacpeiaa
open Go.RowKit
set_option linter.unusedSimpArgs false
set_option linter.unusedVariables false
set_option maxRecDepth 100000

theorem set_any (w : World) (b m : Nat) {K : Int} {S : PS} (h : PoolAt w b m S) (hS : S.Ok K) (hK : 0 ≤ K) (f : Fr) (hf : f.Ok) :
    Calls Try.prog 19 #[.pointer (some ⟨b, 0, none⟩), .agg (fA f)] w (fun e w' => e = .returned (.int .i64 (setS S f).1) ∧ PoolAt w' b m (setS S f).2 ∧ Ex (PB b m) w w') := by
  cases hm : mayF f with
  | false => rw [setS_bad hm]; exact set_bad w b m h hS f hf hm
  | true =>
    cases hi : posF f.page S.s with
    | none => exact set_miss w b m h hS hK f hf hm hi
    | some i =>
      obtain ⟨l, hl, _⟩ := posF_some hi
      rw [setS_hit hm hi hl]
      exact set_hit w b m h hS f hf hm i l hi hl

/-! ### New -/
theorem wpList_build_list {P : Program} {ops : Array Oper} {rest : List Oper} {o : Oper} {a : Act} {w : World} {Q : Exit → Act → World → Prop} (hg : o.guard = none) (t : TypeId) (L : List (Nat × Operand)) (ho : o.op = .build t L.toArray)
    (cells : Array Value) (hb : P.built t (L.map fun x => (x.1, a.eval x.2)) = some cells) (h : wpList P ops Q rest (a.put o.dst (.agg cells)) w) : wpList P ops Q (o :: rest) a w := by
  have e : (L.toArray.map fun (i, x) => (i, a.eval x)).toList = L.map fun x => (x.1, a.eval x.2) := by simp
  refine wpList_build hg t L.toArray ho (by rw [e, hb]; rfl) ?_
  rw [e, hb]
  exact h
def zP : List Value := (List.replicate 16 (none : Slot)).flatMap pcells ++ [.int .i64 0, .map none, .int .i64 0]
theorem zi70 : (Try.prog.info? 70).bind (·.zero) = some (.agg zP.toArray) := by kernel_rfl
theorem pl70 : ∃ fs, Try.prog.underlying 70 = some (.struct fs) ∧ fs.toList.mapM (fun f => (Try.prog.info? f.type).map fun i => (f.offset, i.size)) = some [(0, 1680), (1680, 1), (1681, 1), (1682, 1)] := ⟨_, Try.underlying70, by kernel_rfl⟩
theorem flat0 : ((List.replicate 16 (none : Slot)).flatMap pcells).length = 1680 := by
  rw [fl_len (c := 105) _ (fun x hx => by rw [(List.mem_replicate.1 hx).2]; exact pc_none_len), List.length_replicate]
theorem full0 {n : Nat} (h : n ≤ 16) : full (S0 n) = List.replicate 16 none := by
  simp only [full, S0, List.length_replicate, List.replicate_append_replicate]
  congr 1
  omega
theorem patch_end (A X : List Value) (o : Nat) (vs : List Value) (h : o + vs.length ≤ X.length) : patch (A ++ X) (A.length + o) vs = A ++ patch X o vs := by
  have := patch_mid A X [] o vs h
  simpa using this
theorem built_pool (n : Nat) (hn : n ≤ 16) (m : Nat) : Try.prog.built 70 [(1, .int .i64 (n : Int)), (2, .map (some m))] = some (plist (S0 n) m).toArray := by
  obtain ⟨fs, hu, hp⟩ := pl70
  rw [built_of zi70 hu hp]
  show Instr.fill _ zP.toArray _ = _
  have hl : zP.length = 1683 := by simp only [zP, List.length_append, flat0]; rfl
  have e1 : patch zP 1680 [.int .i64 (n : Int)] = (List.replicate 16 (none : Slot)).flatMap pcells ++ [.int .i64 (n : Int), .map none, .int .i64 0] := by
    have := patch_end ((List.replicate 16 (none : Slot)).flatMap pcells) [.int .i64 0, .map none, .int .i64 0] 0 [.int .i64 (n : Int)] (by simp)
    rw [flat0] at this
    exact this
  have e2 : patch ((List.replicate 16 (none : Slot)).flatMap pcells ++ [.int .i64 (n : Int), .map none, .int .i64 0]) 1681 [.map (some m)] = (List.replicate 16 (none : Slot)).flatMap pcells ++ [.int .i64 (n : Int), .map (some m), .int .i64 0] := by
    have := patch_end ((List.replicate 16 (none : Slot)).flatMap pcells) [.int .i64 (n : Int), .map none, .int .i64 0] 1 [.map (some m)] (by simp)
    rw [flat0] at this
    exact this
  rw [fill_cons (v := .int .i64 (n : Int)) (off := 1680) (size := 1) rfl rfl (by omega)]
  show Instr.fill _ (patch zP 1680 [.int .i64 (n : Int)]).toArray _ = _
  rw [e1, fill_cons (v := .map (some m)) (off := 1681) (size := 1) rfl rfl (by rw [List.length_append, flat0]; simp)]
  show some (patch _ 1681 [Value.map (some m)]).toArray = _
  rw [e2]
  have e3 : plist (S0 n) m = (List.replicate 16 (none : Slot)).flatMap pcells ++ [.int .i64 (n : Int), .map (some m), .int .i64 0] := by
    have e4 : (S0 n).s.length = n := by simp [S0]
    unfold plist
    rw [full0 hn, e4]
    rfl
  rw [e3]
theorem new_no (n : Int) (hn : ¬ (1 ≤ n ∧ n ≤ 16)) (w : World) : Calls Try.prog 7 #[.int .i64 n] w (fun e w' => e = .returned (.tuple #[.pointer none, .int .i64 2]) ∧ w = w') := by
  by_cases h1 : 1 ≤ n
  · have h2 : 16 < n := by omega
    clear hn
    go_enter Try.func7, Try.ntmps7
    go_wp2_with fail
    go_ret2
    exact ⟨rfl, rfl⟩
  · clear hn
    go_enter Try.func7, Try.ntmps7
    go_wp2_with fail
    go_ret2
    exact ⟨rfl, rfl⟩
set_option maxHeartbeats 400000 in
theorem new_yes (n : Nat) (h1 : 1 ≤ n) (h2 : n ≤ 16) (w : World) : Calls Try.prog 7 #[.int .i64 (n : Int)] w (fun e w' => e = .returned (.tuple #[.pointer (some ⟨w.heap.size + 1, 0, none⟩), .int .i64 0]) ∧ PoolAt w' (w.heap.size + 1) w.heap.size (S0 n) ∧ Below w.heap.size w w') := by
  have h1i : (1 : Int) ≤ (n : Int) := by omega
  have h2i : (n : Int) ≤ 16 := by omega
  have hbp0 := built_pool n h2 w.heap.size
  obtain ⟨PA, hPA⟩ : ∃ PA, PA = (plist (S0 n) w.heap.size).toArray := ⟨_, rfl⟩
  rw [← hPA] at hbp0
  have HBP := Lib.hid hbp0
  have HPA := Lib.hid hPA
  clear hbp0 hPA
  go_enter Try.func7, Try.ntmps7
  have hmm := fun t w => @run_makeMap Try.prog t w
  go_wp2_with (refine wpList_build_list rfl 70 [(1, .tmp 10), (2, .tmp 11)] rfl PA ?hb ?hh; case hb => exact HBP.out)
  go_ret2
  refine ⟨rfl, ⟨?_, .map [], ?_, MapR.empty n⟩, ((Below.refl _ w).alloc (Nat.le_refl _) _).alloc (by simp) _⟩
  · have := PCells.new (w.alloc (.map #[] 0)) PA 70
    rw [World.size_alloc, HPA.out] at this
    rw [HPA.out]
    exact this
  · exact (World.ownsMap_made w Try.prog 3 (plainElem Try.prog 3)).alloc _
end Go.Proofs.Ytjbjfpbhacpeiaa
