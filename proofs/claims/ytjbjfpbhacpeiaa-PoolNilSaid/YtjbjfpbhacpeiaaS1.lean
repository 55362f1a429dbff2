/- Contract of the pool's Clear. -/
import Derived.Test.YtjbjfpbhacpeiaaP9
import Derived.Lib.SliceRun
namespace Go.Proofs.Ytjbjfpbhacpeiaa
open Go.RowKit
set_option linter.unusedSimpArgs false
set_option linter.unusedVariables false
set_option maxRecDepth 100000

theorem wpList_clear {P : Program} {ops : Array Oper} {rest : List Oper} {o : Oper} {a : Act} {w w' : World} {Q : Exit → Act → World → Prop} (hg : o.guard = none) (x : Operand) (t : TypeId)
    (hop : o.op = .call { callee := .builtin .clear, args := #[x], argTypes := #[t] }) (v : Value) (hx : a.eval x = v) (hrun : ∀ ty, (Builtin.clear_ #[t] ty #[v]).run P w = .ok (.tuple #[]) w')
    (h : wpList P ops Q rest (a.put o.dst (.tuple #[])) w') : wpList P ops Q (o :: rest) a w := by
  refine wpList_plain hg fun K hK => ?_
  unfold Oper.wp execOp
  simp only [hop, resolve, invoke, builtin, Sem.run_bind, Sem.run_pure, Result.andThen_ok, List.map_toArray, List.map_cons, List.map_nil, hx, hrun]
  exact hK _ _ h
/-- all places' cells, free -/
def z16 : List Value := (List.replicate 16 (none : Slot)).flatMap pcells
theorem z16_len : z16.length = 1680 := by unfold z16; exact flat0
theorem rep_cells (cs : List Value) (c n : Nat) (hc : cs.length = c) (h0 : 0 < c) : (Builtin.zeroCells cs.toArray n).toList = (List.replicate n ()).flatMap fun _ => cs := by
  have hf : ∀ x ∈ List.replicate n (), ((fun _ => cs) x : List Value).length = c := fun _ _ => hc
  have hl := fl_len (f := fun _ : Unit => cs) (List.replicate n ()) hf
  rw [List.length_replicate] at hl
  apply List.ext_getElem?
  intro k
  by_cases hk : k < n * c
  · have hm : k % c < c := Nat.mod_lt _ h0
    have hd : k / c < n := Nat.div_lt_of_lt_mul (by rw [Nat.mul_comm]; exact hk)
    have e : k = k / c * c + k % c := by rw [Nat.mul_comm]; exact (Nat.div_add_mod k c).symm
    have hg := fl_get (f := fun _ : Unit => cs) (List.replicate n ()) hf (k / c) (k % c) hm
    rw [← e, List.getElem?_replicate, if_pos hd] at hg
    rw [hg]
    have hs : cs.toArray.size = c := by rw [List.size_toArray]; exact hc
    simp only [Builtin.zeroCells, hs, Array.toList_map, Array.toList_range, List.getElem?_map, List.getElem?_range hk, Option.map_some, Option.bind_some]
    have hm2 : k % c < cs.length := by omega
    simp [List.getElem?_eq_getElem hm2, hm2]
  · rw [List.getElem?_eq_none (by simp [Builtin.zeroCells, hc]; omega), List.getElem?_eq_none (by omega)]
theorem z16_zero : (Builtin.zeroCells pzA 16).toList = z16 := by
  rw [pzA, rep_cells (pcells none) 105 16 pc_none_len (by omega)]
  rw [z16, List.flatMap_replicate, List.flatMap_replicate]
theorem z16_one : ∀ u ∈ z16, u.oneCell' = true := by
  intro u hu
  obtain ⟨x, _, hx⟩ := List.mem_flatMap.1 hu
  exact pcells_one x u hx
theorem patch_head {β : Type} (A B vs : List β) (h : A.length = vs.length) : patch (A ++ B) 0 vs = vs ++ B := by
  rw [patch_app_left _ _ _ _ (by omega), patch_all _ _ h]
theorem run_clear_row (P : Program) (w : World) (t e : TypeId) (z : Array Value) (ht : P.underlying t = some (.slice e)) (hv : (zeroValue e).run P w = .ok (.agg z) w) (b n c : Nat) (hn : n ≠ 0) (vs : List Value) (hvs : (Builtin.zeroCells z n).toList = vs)
    (hst : (storeCells ⟨b, 0, none⟩ vs 0).run P w = .ok () (w.setCells b 0 vs)) (ty : TypeId) : (Builtin.clear_ #[t] ty #[.slice (some ⟨b, 0, none⟩) n c]).run P w = .ok (.tuple #[]) (w.setCells b 0 vs) := by
  obtain ⟨k, rfl⟩ : ∃ k, n = k + 1 := ⟨n - 1, by omega⟩
  simp [Builtin.clear_, run_underlying ht, hv, Value.cells, hvs, hst]
section
variable {w : World} {b m : Nat} {K : Int} {S : PS} (h : PoolAt w b m S) (hS : S.Ok K)
include h hS
theorem wiped_run (ty : TypeId) : (Builtin.clear_ #[91] ty #[.slice (some ⟨b, 0, none⟩) 16 16]).run Try.prog w = .ok (.tuple #[]) (w.setCells b 0 z16) := by
  have hl := plist_len hS m
  have hz := z16_len
  have hst := run_storeCells_cells (P := Try.prog) b 0 z16 0 w (fun j hj => by rw [h.cells.cell, List.getElem?_eq_getElem (by omega)]; rfl) (fun j _ => h.cells.frozen _) z16_one
  exact run_clear_row Try.prog w _ _ pzA Try.underlying91 (zpl w) b 16 16 (by decide) z16 z16_zero hst ty
theorem wiped_row : PCells (w.setCells b 0 z16) b (z16 ++ [.int .i64 (S.s.length : Int), .map (some m), .int .i64 (S.hand : Int)]) 70 := by
  have hl := plist_len hS m
  have hz := z16_len
  have h1 := h.cells.sets z16 (o := 0) (by omega)
  have e : patch (plist S m) 0 z16 = z16 ++ [.int .i64 (S.s.length : Int), .map (some m), .int .i64 (S.hand : Int)] := by
    unfold plist
    exact patch_head _ _ _ (by rw [flat_len hS, hz])
  rw [e] at h1
  exact h1
end
theorem wiped_map {w : World} {m n : Nat} {D : DataW Unit} (h : OwnsI w m n D) (t : TypeId) (ht : Try.prog.underlying t = some (.map 3 3)) : ∃ w', (∀ ty, (Builtin.clear_ #[t] ty #[.map (some m)]).run Try.prog w = .ok (.tuple #[]) w') ∧ OwnsI w' m 0 (.map []) ∧ Ex (fun k => k = m) w w' := by
  obtain ⟨es, clock, hb, F, hs, hD⟩ := h
  refine ⟨{ w with heap := w.heap.setIfInBounds m (.map #[] clock) }, fun ty => ?_, ⟨#[], clock, (MapKept.heap_set hb).1, ⟨by simp, MapKept.stamped_empty clock, by simp⟩, Nat.le_refl _, rfl⟩, ?_⟩
  · simp [Builtin.clear_, run_underlying ht, MapKept.run_getObj_map hb, MapKept.run_setObj_map _ hb]
  · exact ⟨rfl, rfl, rfl, by simp, fun k _ hk => (MapKept.heap_set hb).2 k hk⟩
theorem clearS_ok {K : Int} {S : PS} (hS : S.Ok K) : (clearS S).Ok 0 := S0_ok hS.pos hS.len
theorem plist_clear {K : Int} {S : PS} (hS : S.Ok K) (m k : Nat) : z16 ++ [.int .i64 (S.s.length : Int), .map (some m), .int .i64 (k : Int)] = plist { (clearS S) with hand := k } m := by
  have e4 : (S0 S.s.length).s.length = S.s.length := by simp [S0]
  have e5 := full0 hS.len
  show _ = (full (S0 S.s.length)).flatMap pcells ++ [.int .i64 ((S0 S.s.length).s.length : Int), _, _]
  rw [e4, e5]
  rfl
set_option maxHeartbeats 4000000 in
theorem clear_any (w : World) (b m : Nat) {K : Int} {S : PS} (h : PoolAt w b m S) (hS : S.Ok K) : Calls Try.prog 33 #[.pointer (some ⟨b, 0, none⟩)] w (fun e w' => e = .returned (.int .i64 (cntS S.s : Int)) ∧ PoolAt w' b m (clearS S) ∧ Ex (PB b m) w w') := by
  have HL := Lib.hid (len_any w b m h hS)
  have HT := Lib.hid (there_yes w b m h hS)
  have c1 := wiped_run h hS
  have c2 := wiped_row h hS
  have hmb := h.ne
  have ex1 := setCells_ex (T := fun k => k = b) z16 0 w rfl
  have HW := Lib.hid c1
  obtain ⟨D, hD, hM⟩ := h.map
  have hD2 := owns_kept hD ex1 h.ne
  have cm : (w.setCells b 0 z16).cell? ⟨b, 1681, none⟩ = some (.map (some m)) := by
    rw [c2.cell, plist_clear hS m S.hand]
    exact (plist_tail (K := 0) (S := { (clearS S) with hand := S.hand }) ⟨(clearS_ok hS).pos, (clearS_ok hS).len, by simpa [clearS, S0] using hS.hand, (clearS_ok hS).live, (clearS_ok hS).uniq⟩ m).2.1
  obtain ⟨w3, hr3, hown3, hx3⟩ := wiped_map hD2 68 Try.underlying68
  have HM := Lib.hid hr3
  have c3 := c2.kept hx3 (Ne.symm hmb)
  have ok0 : PS.Ok 0 { (clearS S) with hand := S.hand } := ⟨(clearS_ok hS).pos, (clearS_ok hS).len, by simpa [clearS, S0] using hS.hand, (clearS_ok hS).live, (clearS_ok hS).uniq⟩
  rw [plist_clear hS] at c3
  have ch : w3.cell? ⟨b, 1682, none⟩ = some (.int .i64 (S.hand : Int)) := by rw [c3.cell]; exact (plist_tail ok0 m).2.2
  have fh : w3.frozen? ⟨b, 1682, none⟩ = false := c3.frozen 1682
  have HP : Hid (PoolAt (w3.setCell ⟨b, 1682, none⟩ (.int .i64 0)) b m (clearS S)) := Lib.hid (by
    have c4 := c3.set 1682 (.int .i64 ((0 : Nat) : Int))
    rw [plist_hand ok0 m 0] at c4
    refine ⟨c4, .map [], ?_, MapR.empty _⟩
    have := owns_kept hown3 (setCell_ex (T := fun k => k = b) 1682 (.int .i64 ((0 : Nat) : Int)) w3 rfl) hmb
    exact this)
  have HE : Hid (Ex (PB b m) w (w3.setCell ⟨b, 1682, none⟩ (.int .i64 0))) := Lib.hid (((ex1.mono (T' := PB b m) fun k hk => .inl hk).trans (hx3.mono (T' := PB b m) fun k hk => .inr hk)).trans (setCell_ex (T := PB b m) 1682 _ w3 (.inl rfl)))
  clear h hS c1 c2 ex1 hD hM hD2 hr3 hown3 hx3 c3 ok0 hmb
  go_enter Try.func33, Try.ntmps33
  go_wp2_with fail
  refine HL.out.mono ?_
  rintro e w' ⟨rfl, rfl⟩
  go_wp2_with fail
  refine HT.out.mono ?_
  rintro e w' ⟨rfl, rfl⟩
  go_upto_region 4 with (refine wpList_clear rfl (.tmp 11) 91 rfl _ rfl HW.out ?_)
  generalize w.setCells b 0 z16 = w2 at *
  go_upto_region 5 with (refine wpList_clear rfl (.tmp 15) 68 rfl _ rfl HM.out ?_)
  go_wp2_with fail
  go_ret
  exact ⟨rfl, HP.out, HE.out⟩
end Go.Proofs.Ytjbjfpbhacpeiaa
