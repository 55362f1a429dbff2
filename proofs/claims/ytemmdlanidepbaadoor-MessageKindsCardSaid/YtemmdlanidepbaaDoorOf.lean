/- Contracts of message.of, Fields, Name, Master. -/
import Derived.Test.YtemmdlanidepbaaDoorKinds2
namespace Go.Proofs.YtemmdlanidepbaaDoor
open Go.RowKit
set_option linter.unusedSimpArgs false
set_option maxRecDepth 100000

theorem info102 : (Tryd.prog.info? 102).map (·.size) = some 3 := by kernel_rfl
theorem fld0 (a b c : Value) (u : World) : (Instr.field 102 (.agg #[a, b, c]) 0).run Tryd.prog u = .ok a u := by kernel_rfl
theorem fld1 (a b c : Value) (u : World) : (Instr.field 102 (.agg #[a, b, c]) 1).run Tryd.prog u = .ok b u := by kernel_rfl
theorem fld2 (a b c : Value) (u : World) : (Instr.field 102 (.agg #[a, b, c]) 2).run Tryd.prog u = .ok c u := by kernel_rfl
theorem k3_all (a : ByteArray) (b : Bool) (x : Option Addr) (n c : Nat) : (#[Value.string a, .bool b, .slice x n c]).all (·.oneCell') = true := by kernel_rfl
theorem of_out (k : Int) (h : k < 1 ∨ 13 < k) (w : World) :
    Calls Tryd.prog 62 #[.int .i64 k] w (fun e w' => e = .returned (.agg #[.string ⟨#[]⟩, .bool false, .slice none 0 0]) ∧ Below w.heap.size w w') := by
  go_enter Tryd.func62, Tryd.ntmps62
  rcases h with h | h
  all_goals
    go_wp2
    exact bodyPost_ret (v := .agg #[.string ⟨#[]⟩, .bool false, .slice none 0 0]) (by simp [results, Tryd.results62, go_sem]) rfl ⟨rfl, (Below.refl _ _).alloc (Nat.le_refl _) _⟩
theorem kidx (k : Int) (h1 : 1 ≤ k) (h2 : k ≤ 13) (g1 c1 g2 c2 g3 c3 g4 c4 g5 c5 g6 c6 g7 c7 g8 c8 g9 c9 g10 c10 g11 c11 g12 c12 g13 c13 : Nat) : ∃ g c, (g, c, fieldsOf k) ∈ ([(g13, c13, [1, 5]), (g12, c12, [1, 2]), (g11, c11, [1]), (g10, c10, [1, 2, 5]), (g9, c9, [1, 2]), (g8, c8, [1, 2]), (g7, c7, [1, 2, 3, 5, 6, 7]), (g6, c6, [1, 2]), (g5, c5, [1, 2]), (g4, c4, [1, 2, 4]), (g3, c3, [1, 2, 4]), (g2, c2, [1, 2, 3]), (g1, c1, [1, 3])] : List (Nat × Nat × List Int)) ∧
    ∀ u : World, (Instr.index 105 (.agg (kcells g1 c1 g2 c2 g3 c3 g4 c4 g5 c5 g6 c6 g7 c7 g8 c8 g9 c9 g10 c10 g11 c11 g12 c12 g13 c13)) (.int .i64 k)).run Tryd.prog u = .ok (.agg #[.string (nameOf k), .bool (masterOf k), .slice (some ⟨g, 0, none⟩) (fieldsOf k).length c]) u := by
  have hk : k = 1 ∨ k = 2 ∨ k = 3 ∨ k = 4 ∨ k = 5 ∨ k = 6 ∨ k = 7 ∨ k = 8 ∨ k = 9 ∨ k = 10 ∨ k = 11 ∨ k = 12 ∨ k = 13 := by omega
  rcases hk with rfl | rfl | rfl | rfl | rfl | rfl | rfl | rfl | rfl | rfl | rfl | rfl | rfl
  · exact ⟨g1, c1, by simp [fieldsOf], fun u => by kernel_rfl⟩
  · exact ⟨g2, c2, by simp [fieldsOf], fun u => by kernel_rfl⟩
  · exact ⟨g3, c3, by simp [fieldsOf], fun u => by kernel_rfl⟩
  · exact ⟨g4, c4, by simp [fieldsOf], fun u => by kernel_rfl⟩
  · exact ⟨g5, c5, by simp [fieldsOf], fun u => by kernel_rfl⟩
  · exact ⟨g6, c6, by simp [fieldsOf], fun u => by kernel_rfl⟩
  · exact ⟨g7, c7, by simp [fieldsOf], fun u => by kernel_rfl⟩
  · exact ⟨g8, c8, by simp [fieldsOf], fun u => by kernel_rfl⟩
  · exact ⟨g9, c9, by simp [fieldsOf], fun u => by kernel_rfl⟩
  · exact ⟨g10, c10, by simp [fieldsOf], fun u => by kernel_rfl⟩
  · exact ⟨g11, c11, by simp [fieldsOf], fun u => by kernel_rfl⟩
  · exact ⟨g12, c12, by simp [fieldsOf], fun u => by kernel_rfl⟩
  · exact ⟨g13, c13, by simp [fieldsOf], fun u => by kernel_rfl⟩
set_option maxRecDepth 100000 in
theorem of_in (k : Int) (h1 : 1 ≤ k) (h2 : k ≤ 13) (w : World) :
    Calls Tryd.prog 62 #[.int .i64 k] w (fun e w' => ∃ g c, e = .returned (.agg #[.string (nameOf k), .bool (masterOf k), .slice (some ⟨g, 0, none⟩) (fieldsOf k).length c]) ∧
      w'.ownsRow w.heap.size 73 1 (.slice (some ⟨g, 0, none⟩) (fieldsOf k).length c) (fieldsOf k).length (iv (fieldsOf k)) ∧ Below w.heap.size w w') := by
  go_enter Tryd.func62, Tryd.ntmps62
  go_wp2_with fail
  refine (kinds_any _).mono ?_
  rintro e w1 ⟨g1, c1, g2, c2, g3, c3, g4, c4, g5, c5, g6, c6, g7, c7, g8, c8, g9, c9, g10, c10, g11, c11, g12, c12, g13, c13, rfl, hf, hb⟩
  obtain ⟨g, c, hm, hix⟩ := kidx k h1 h2 g1 c1 g2 c2 g3 c3 g4 c4 g5 c5 g6 c6 g7 c7 g8 c8 g9 c9 g10 c10 g11 c11 g12 c12 g13 c13
  have HF := Lib.hid (hf _ hm)
  have HB := Lib.hid (Bl.step ((Below.refl w.heap.size w).alloc (Nat.le_refl _) _) hb)
  have HZ := Lib.hid ((hb.block w.heap.size (by simp)).trans (heap_alloc_new w _))
  have HS : Hid (w.heap.size < (w.alloc (.cells #[.string ⟨#[]⟩, .bool false, .slice none 0 0] 102)).heap.size) := Lib.hid (by simp)
  clear hm hf hb
  generalize kcells g1 c1 g2 c2 g3 c3 g4 c4 g5 c5 g6 c6 g7 c7 g8 c8 g9 c9 g10 c10 g11 c11 g12 c12 g13 c13 = cs at *
  go_wp2_with (refine wpList_store_row rfl 102 (.tmp 2) (.tmp 12) rfl w.heap.size #[.string (nameOf k), .bool (masterOf k), .slice (some ⟨g, 0, none⟩) (fieldsOf k).length c] rfl rfl 102 _ HZ.out info102 rfl (k3_all ..) ?_)
  have hrow := setRow_at (cs := #[.string (nameOf k), .bool (masterOf k), .slice (some ⟨g, 0, none⟩) (fieldsOf k).length c]) HZ.out
  have hgr := setRow_grown w1 w.heap.size #[.string (nameOf k), .bool (masterOf k), .slice (some ⟨g, 0, none⟩) (fieldsOf k).length c]
  have HF2 := own_lower (HF.out.kept hgr (.inr fun e => by have h1 := (HF.out.lt g rfl).1; have h2 := HS.out; injection e with e; have e' : g = w.heap.size := e; omega)) (Nat.le_of_lt HS.out)
  have HB2 := Bl.grown HB.out hgr (fun k hk => by injection hk with hk; omega)
  generalize w1.setRow w.heap.size #[.string (nameOf k), .bool (masterOf k), .slice (some ⟨g, 0, none⟩) (fieldsOf k).length c] = w2 at *
  refine bodyPost_ret (v := .agg #[.string (nameOf k), .bool (masterOf k), .slice (some ⟨g, 0, none⟩) (fieldsOf k).length c]) ?hr rfl ?hp
  case hr => exact results_cell_row rfl _ _ w.heap.size 102 _ (0, 0) _ rfl hrow Tryd.underlying102 rfl info102
  case hp => exact ⟨g, c, rfl, HF2, HB2⟩

/-- a slice of fields: the call's own, or nil -/
theorem fields_any (k : Int) (w : World) :
    Calls Tryd.prog 20 #[.int .i64 k] w (fun e w' => ∃ A c, e = .returned (.slice A (fieldsOf k).length c) ∧
      w'.ownsRow w.heap.size 73 1 (.slice A (fieldsOf k).length c) (fieldsOf k).length (iv (fieldsOf k)) ∧ Below w.heap.size w w') := by
  by_cases h : 1 ≤ k ∧ k ≤ 13
  · have HC := Lib.hid (of_in k h.1 h.2 w)
    clear h
    have hfl := fld2
    go_enter Tryd.func20, Tryd.ntmps20
    go_wp2_with fail
    refine HC.out.mono ?_
    rintro e w1 ⟨g, c, rfl, ho, hb⟩
    go_wp2_with fail
    go_ret
    exact ⟨_, c, rfl, ho, hb⟩
  · have HC := Lib.hid (of_out k (by omega) w)
    have hn : fieldsOf k = [] := by unfold fieldsOf; repeat (rw [if_neg (by omega)])
    rw [hn]
    clear h hn
    have hfl := fld2
    go_enter Tryd.func20, Tryd.ntmps20
    go_wp2_with fail
    refine HC.out.mono ?_
    rintro e w1 ⟨rfl, hb⟩
    go_wp2_with fail
    go_ret
    exact ⟨none, 0, rfl, World.ownsRow_nil _ _ _ _, hb⟩
theorem name_any (k : Int) (w : World) : Calls Tryd.prog 18 #[.int .i64 k] w (fun e w' => e = .returned (.string (nameOf k)) ∧ Below w.heap.size w w') := by
  by_cases h : 1 ≤ k ∧ k ≤ 13
  · have HC := Lib.hid (of_in k h.1 h.2 w)
    clear h
    have hfl := fld0
    go_enter Tryd.func18, Tryd.ntmps18
    go_wp2_with fail
    refine HC.out.mono ?_
    rintro e w1 ⟨g, c, rfl, ho, hb⟩
    go_wp2_with fail
    go_ret
    exact ⟨rfl, hb⟩
  · have HC := Lib.hid (of_out k (by omega) w)
    have hn : nameOf k = ⟨#[]⟩ := by unfold nameOf; repeat (rw [if_neg (by omega)])
    rw [hn]
    clear h hn
    have hfl := fld0
    go_enter Tryd.func18, Tryd.ntmps18
    go_wp2_with fail
    refine HC.out.mono ?_
    rintro e w1 ⟨rfl, hb⟩
    go_wp2_with fail
    go_ret
    exact ⟨rfl, hb⟩
theorem master_any (k : Int) (w : World) : Calls Tryd.prog 22 #[.int .i64 k] w (fun e w' => e = .returned (.bool (masterOf k)) ∧ Below w.heap.size w w') := by
  by_cases h : 1 ≤ k ∧ k ≤ 13
  · have HC := Lib.hid (of_in k h.1 h.2 w)
    clear h
    have hfl := fld1
    go_enter Tryd.func22, Tryd.ntmps22
    go_wp2_with fail
    refine HC.out.mono ?_
    rintro e w1 ⟨g, c, rfl, ho, hb⟩
    go_wp2_with fail
    go_ret
    exact ⟨rfl, hb⟩
  · have HC := Lib.hid (of_out k (by omega) w)
    have hn : masterOf k = false := by unfold masterOf; simp; omega
    rw [hn]
    clear h hn
    have hfl := fld1
    go_enter Tryd.func22, Tryd.ntmps22
    go_wp2_with fail
    refine HC.out.mono ?_
    rintro e w1 ⟨rfl, hb⟩
    go_wp2_with fail
    go_ret
    exact ⟨rfl, hb⟩
end Go.Proofs.YtemmdlanidepbaaDoor
