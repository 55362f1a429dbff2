/- Contract of message.kinds. -/
import Derived.Test.YtemmdlanidepbaaDoorKinds
namespace Go.Proofs.YtemmdlanidepbaaDoor
open Go.RowKit
set_option linter.unusedSimpArgs false

theorem stop_kinds {p : Prop} (h : Hid p) : p := h.out
theorem stop_store {P : Program} {ops : Array Oper} {rest : List Oper} {o : Oper} {a : Act} {w : World} {Q : Exit → Act → World → Prop} {ty : TypeId} {x y : Operand} (_ho : o.op = .store ty x y) (h : Hid (wpList P ops Q (o :: rest) a w)) : wpList P ops Q (o :: rest) a w := h.out
theorem info105 : (Tryd.prog.info? 105).map (·.size) = some 42 := by kernel_rfl
theorem flds_step {w W W1 : World} {base : Nat} {L : List (Nat × Nat × List Int)} {g c : Nat} {l : List Int} {o : Obj} (HF : Flds W base L) (hs : base ≤ W.heap.size) (hb : Below (W.alloc o).heap.size (W.alloc o) W1)
    (ho : W1.ownsRow (W.alloc o).heap.size 73 1 (.slice (some ⟨g, 0, none⟩) l.length c) l.length (iv l)) (HB : Below w.heap.size w W) : Flds W1 base ((g, c, l) :: L) ∧ Below w.heap.size w W1 := by
  have hba := (Below.refl W.heap.size W).alloc (Nat.le_refl _) o
  have hx : base ≤ (W.alloc o).heap.size := Nat.le_trans hs hba.size
  exact ⟨(HF.below hba).next hb hx ho, Bl.step HB (Bl.step hba hb)⟩

/-- all kinds' cells -/
def kcells (g1 c1 g2 c2 g3 c3 g4 c4 g5 c5 g6 c6 g7 c7 g8 c8 g9 c9 g10 c10 g11 c11 g12 c12 g13 c13 : Nat) : Array Value := #[.string ⟨#[]⟩, .bool false, .slice none 0 0, .string ⟨#[119, 97, 110, 116]⟩, .bool false, .slice (some ⟨g1, 0, none⟩) 2 c1, .string ⟨#[103, 114, 97, 110, 116]⟩, .bool true, .slice (some ⟨g2, 0, none⟩) 3 c2, .string ⟨#[115, 104, 97, 114, 101]⟩, .bool true, .slice (some ⟨g3, 0, none⟩) 3 c3, .string ⟨#[121, 105, 101, 108, 100]⟩, .bool true, .slice (some ⟨g4, 0, none⟩) 3 c4, .string ⟨#[100, 114, 111, 112]⟩, .bool true, .slice (some ⟨g5, 0, none⟩) 2 c5, .string ⟨#[103, 111, 110, 101]⟩, .bool false, .slice (some ⟨g6, 0, none⟩) 2 c6, .string ⟨#[105, 109, 97, 103, 101]⟩, .bool false, .slice (some ⟨g7, 0, none⟩) 6 c7, .string ⟨#[103, 111, 116]⟩, .bool false, .slice (some ⟨g8, 0, none⟩) 2 c8, .string ⟨#[114, 101, 108, 101, 97, 115, 101]⟩, .bool false, .slice (some ⟨g9, 0, none⟩) 2 c9, .string ⟨#[119, 114, 111, 116, 101]⟩, .bool false, .slice (some ⟨g10, 0, none⟩) 3 c10, .string ⟨#[99, 108, 101, 97, 110]⟩, .bool false, .slice (some ⟨g11, 0, none⟩) 1 c11, .string ⟨#[102, 108, 117, 115, 104]⟩, .bool true, .slice (some ⟨g12, 0, none⟩) 2 c12, .string ⟨#[100, 105, 115, 99, 97, 114, 100]⟩, .bool true, .slice (some ⟨g13, 0, none⟩) 2 c13]
def Kinds (w : World) (e : Ending) (w' : World) : Prop := ∃ g1 c1 g2 c2 g3 c3 g4 c4 g5 c5 g6 c6 g7 c7 g8 c8 g9 c9 g10 c10 g11 c11 g12 c12 g13 c13, e = .returned (.agg (kcells g1 c1 g2 c2 g3 c3 g4 c4 g5 c5 g6 c6 g7 c7 g8 c8 g9 c9 g10 c10 g11 c11 g12 c12 g13 c13)) ∧ Flds w' w.heap.size [(g13, c13, [1, 5]), (g12, c12, [1, 2]), (g11, c11, [1]), (g10, c10, [1, 2, 5]), (g9, c9, [1, 2]), (g8, c8, [1, 2]), (g7, c7, [1, 2, 3, 5, 6, 7]), (g6, c6, [1, 2]), (g5, c5, [1, 2]), (g4, c4, [1, 2, 4]), (g3, c3, [1, 2, 4]), (g2, c2, [1, 2, 3]), (g1, c1, [1, 3])] ∧ Below w.heap.size w w'

theorem kcells_all (g1 c1 g2 c2 g3 c3 g4 c4 g5 c5 g6 c6 g7 c7 g8 c8 g9 c9 g10 c10 g11 c11 g12 c12 g13 c13 : Nat) : (kcells g1 c1 g2 c2 g3 c3 g4 c4 g5 c5 g6 c6 g7 c7 g8 c8 g9 c9 g10 c10 g11 c11 g12 c12 g13 c13).all (·.oneCell') = true := by kernel_rfl
theorem kcells_size (g1 c1 g2 c2 g3 c3 g4 c4 g5 c5 g6 c6 g7 c7 g8 c8 g9 c9 g10 c10 g11 c11 g12 c12 g13 c13 : Nat) : (kcells g1 c1 g2 c2 g3 c3 g4 c4 g5 c5 g6 c6 g7 c7 g8 c8 g9 c9 g10 c10 g11 c11 g12 c12 g13 c13).size = 42 := rfl
theorem kcells_info (g1 c1 g2 c2 g3 c3 g4 c4 g5 c5 g6 c6 g7 c7 g8 c8 g9 c9 g10 c10 g11 c11 g12 c12 g13 c13 : Nat) : (Tryd.prog.info? 105).map (·.size) = some (kcells g1 c1 g2 c2 g3 c3 g4 c4 g5 c5 g6 c6 g7 c7 g8 c8 g9 c9 g10 c10 g11 c11 g12 c12 g13 c13).size := by rw [kcells_size]; exact info105
theorem setRow_at {w : World} {g : Nat} {t : TypeId} {old cs : Array Value} (h : w.heap[g]? = some (.cells old t (0, 0))) : (w.setRow g cs).heap[g]? = some (.cells cs t (0, 0)) := by
  simp [World.setRow, Array.getElem?_modify, h]
theorem setRow_grown (w : World) (g : Nat) (cs : Array Value) : w.grownBy (w.setRow g cs) (some g) :=
  ⟨rfl, rfl, rfl, by simp [World.setRow], fun k _ hk => by
    have : g ≠ k := fun e => hk (by rw [e])
    simp [World.setRow, Array.getElem?_modify, this]⟩
theorem kinds_of {w w' : World} {base : Nat} {g1 c1 g2 c2 g3 c3 g4 c4 g5 c5 g6 c6 g7 c7 g8 c8 g9 c9 g10 c10 g11 c11 g12 c12 g13 c13 : Nat} (hs : w.heap.size ≤ base) (hf : Flds w' base [(g13, c13, [1, 5]), (g12, c12, [1, 2]), (g11, c11, [1]), (g10, c10, [1, 2, 5]), (g9, c9, [1, 2]), (g8, c8, [1, 2]), (g7, c7, [1, 2, 3, 5, 6, 7]), (g6, c6, [1, 2]), (g5, c5, [1, 2]), (g4, c4, [1, 2, 4]), (g3, c3, [1, 2, 4]), (g2, c2, [1, 2, 3]), (g1, c1, [1, 3])]) (hb : Below w.heap.size w w') : Kinds w (.returned (.agg (kcells g1 c1 g2 c2 g3 c3 g4 c4 g5 c5 g6 c6 g7 c7 g8 c8 g9 c9 g10 c10 g11 c11 g12 c12 g13 c13))) w' :=
  ⟨g1, c1, g2, c2, g3, c3, g4, c4, g5, c5, g6, c6, g7, c7, g8, c8, g9, c9, g10, c10, g11, c11, g12, c12, g13, c13, rfl, fun x hx => own_lower (hf x hx) hs, hb⟩
set_option maxRecDepth 100000 in
set_option maxHeartbeats 8000000 in
theorem kinds_any (w : World) : Calls Tryd.prog 64 #[] w (Kinds w) := by
  go_enter Tryd.func64, Tryd.ntmps64
  go_wp2_with fail
  have HBw : Hid (Below w.heap.size w (w.alloc (.cells #[.string ⟨#[]⟩, .bool false, .slice none 0 0, .string ⟨#[]⟩, .bool false, .slice none 0 0, .string ⟨#[]⟩, .bool false, .slice none 0 0, .string ⟨#[]⟩, .bool false, .slice none 0 0, .string ⟨#[]⟩, .bool false, .slice none 0 0, .string ⟨#[]⟩, .bool false, .slice none 0 0, .string ⟨#[]⟩, .bool false, .slice none 0 0, .string ⟨#[]⟩, .bool false, .slice none 0 0, .string ⟨#[]⟩, .bool false, .slice none 0 0, .string ⟨#[]⟩, .bool false, .slice none 0 0, .string ⟨#[]⟩, .bool false, .slice none 0 0, .string ⟨#[]⟩, .bool false, .slice none 0 0, .string ⟨#[]⟩, .bool false, .slice none 0 0, .string ⟨#[]⟩, .bool false, .slice none 0 0] 105))) := (Below.refl _ _).alloc (Nat.le_refl _) _
  have HZ0 : Hid ((w.alloc (.cells #[.string ⟨#[]⟩, .bool false, .slice none 0 0, .string ⟨#[]⟩, .bool false, .slice none 0 0, .string ⟨#[]⟩, .bool false, .slice none 0 0, .string ⟨#[]⟩, .bool false, .slice none 0 0, .string ⟨#[]⟩, .bool false, .slice none 0 0, .string ⟨#[]⟩, .bool false, .slice none 0 0, .string ⟨#[]⟩, .bool false, .slice none 0 0, .string ⟨#[]⟩, .bool false, .slice none 0 0, .string ⟨#[]⟩, .bool false, .slice none 0 0, .string ⟨#[]⟩, .bool false, .slice none 0 0, .string ⟨#[]⟩, .bool false, .slice none 0 0, .string ⟨#[]⟩, .bool false, .slice none 0 0, .string ⟨#[]⟩, .bool false, .slice none 0 0, .string ⟨#[]⟩, .bool false, .slice none 0 0] 105)).heap[w.heap.size]? = some (.cells #[.string ⟨#[]⟩, .bool false, .slice none 0 0, .string ⟨#[]⟩, .bool false, .slice none 0 0, .string ⟨#[]⟩, .bool false, .slice none 0 0, .string ⟨#[]⟩, .bool false, .slice none 0 0, .string ⟨#[]⟩, .bool false, .slice none 0 0, .string ⟨#[]⟩, .bool false, .slice none 0 0, .string ⟨#[]⟩, .bool false, .slice none 0 0, .string ⟨#[]⟩, .bool false, .slice none 0 0, .string ⟨#[]⟩, .bool false, .slice none 0 0, .string ⟨#[]⟩, .bool false, .slice none 0 0, .string ⟨#[]⟩, .bool false, .slice none 0 0, .string ⟨#[]⟩, .bool false, .slice none 0 0, .string ⟨#[]⟩, .bool false, .slice none 0 0, .string ⟨#[]⟩, .bool false, .slice none 0 0] 105 (0, 0))) := Lib.hid (heap_alloc_new _ _)
  have HS0 : Hid ((w.alloc (.cells #[.string ⟨#[]⟩, .bool false, .slice none 0 0, .string ⟨#[]⟩, .bool false, .slice none 0 0, .string ⟨#[]⟩, .bool false, .slice none 0 0, .string ⟨#[]⟩, .bool false, .slice none 0 0, .string ⟨#[]⟩, .bool false, .slice none 0 0, .string ⟨#[]⟩, .bool false, .slice none 0 0, .string ⟨#[]⟩, .bool false, .slice none 0 0, .string ⟨#[]⟩, .bool false, .slice none 0 0, .string ⟨#[]⟩, .bool false, .slice none 0 0, .string ⟨#[]⟩, .bool false, .slice none 0 0, .string ⟨#[]⟩, .bool false, .slice none 0 0, .string ⟨#[]⟩, .bool false, .slice none 0 0, .string ⟨#[]⟩, .bool false, .slice none 0 0, .string ⟨#[]⟩, .bool false, .slice none 0 0] 105)).heap.size = w.heap.size + 1) := Lib.hid (by simp)
  rw [← HS0.out]
  generalize w.alloc (.cells #[.string ⟨#[]⟩, .bool false, .slice none 0 0, .string ⟨#[]⟩, .bool false, .slice none 0 0, .string ⟨#[]⟩, .bool false, .slice none 0 0, .string ⟨#[]⟩, .bool false, .slice none 0 0, .string ⟨#[]⟩, .bool false, .slice none 0 0, .string ⟨#[]⟩, .bool false, .slice none 0 0, .string ⟨#[]⟩, .bool false, .slice none 0 0, .string ⟨#[]⟩, .bool false, .slice none 0 0, .string ⟨#[]⟩, .bool false, .slice none 0 0, .string ⟨#[]⟩, .bool false, .slice none 0 0, .string ⟨#[]⟩, .bool false, .slice none 0 0, .string ⟨#[]⟩, .bool false, .slice none 0 0, .string ⟨#[]⟩, .bool false, .slice none 0 0, .string ⟨#[]⟩, .bool false, .slice none 0 0] 105) = w0 at *
  have HB0 := Lib.hid (Below.refl w0.heap.size w0)
  have HF0 := Lib.hid (Flds.nil w0 w0.heap.size)
  refine (l_any (some ⟨w0.heap.size, 0, none⟩) 1 [3] _ (at_ints w0 73 [3] _ rfl) (by simp)).mono ?_
  rintro e w1 ⟨g1, c1, rfl, ho, hb⟩
  obtain ⟨hf, hB⟩ := flds_step HF0.out HB0.out.size hb ho HB0.out
  have HZ1 := Lib.hid (((hb.block w.heap.size (by have := HB0.out.size; have := (Array.getElem?_eq_some_iff.1 HZ0.out).1; simp; omega)).trans (Below.heap_alloc _ _ _ (Array.getElem?_eq_some_iff.1 HZ0.out).1)).trans HZ0.out)
  have HF1 := Lib.hid hf
  have HB1 := Lib.hid hB
  clear HF0 HB0 HZ0 hf hB ho hb
  simp only [List.length_cons, List.length_nil, Nat.zero_add, Nat.reduceAdd] at *
  go_wp2_with fail
  refine (l_any (some ⟨w1.heap.size, 0, none⟩) 2 [2, 3] _ (at_ints w1 73 [2, 3] _ rfl) (by simp)).mono ?_
  rintro e w2 ⟨g2, c2, rfl, ho, hb⟩
  obtain ⟨hf, hB⟩ := flds_step HF1.out HB1.out.size hb ho HB1.out
  have HZ2 := Lib.hid (((hb.block w.heap.size (by have := HB1.out.size; have := (Array.getElem?_eq_some_iff.1 HZ1.out).1; simp; omega)).trans (Below.heap_alloc _ _ _ (Array.getElem?_eq_some_iff.1 HZ1.out).1)).trans HZ1.out)
  have HF2 := Lib.hid hf
  have HB2 := Lib.hid hB
  clear HF1 HB1 HZ1 hf hB ho hb
  simp only [List.length_cons, List.length_nil, Nat.zero_add, Nat.reduceAdd] at *
  go_wp2_with fail
  refine (l_any (some ⟨w2.heap.size, 0, none⟩) 2 [2, 4] _ (at_ints w2 73 [2, 4] _ rfl) (by simp)).mono ?_
  rintro e w3 ⟨g3, c3, rfl, ho, hb⟩
  obtain ⟨hf, hB⟩ := flds_step HF2.out HB2.out.size hb ho HB2.out
  have HZ3 := Lib.hid (((hb.block w.heap.size (by have := HB2.out.size; have := (Array.getElem?_eq_some_iff.1 HZ2.out).1; simp; omega)).trans (Below.heap_alloc _ _ _ (Array.getElem?_eq_some_iff.1 HZ2.out).1)).trans HZ2.out)
  have HF3 := Lib.hid hf
  have HB3 := Lib.hid hB
  clear HF2 HB2 HZ2 hf hB ho hb
  simp only [List.length_cons, List.length_nil, Nat.zero_add, Nat.reduceAdd] at *
  go_wp2_with fail
  refine (l_any (some ⟨w3.heap.size, 0, none⟩) 2 [2, 4] _ (at_ints w3 73 [2, 4] _ rfl) (by simp)).mono ?_
  rintro e w4 ⟨g4, c4, rfl, ho, hb⟩
  obtain ⟨hf, hB⟩ := flds_step HF3.out HB3.out.size hb ho HB3.out
  have HZ4 := Lib.hid (((hb.block w.heap.size (by have := HB3.out.size; have := (Array.getElem?_eq_some_iff.1 HZ3.out).1; simp; omega)).trans (Below.heap_alloc _ _ _ (Array.getElem?_eq_some_iff.1 HZ3.out).1)).trans HZ3.out)
  have HF4 := Lib.hid hf
  have HB4 := Lib.hid hB
  clear HF3 HB3 HZ3 hf hB ho hb
  simp only [List.length_cons, List.length_nil, Nat.zero_add, Nat.reduceAdd] at *
  go_wp2_with fail
  refine (l_any (some ⟨w4.heap.size, 0, none⟩) 1 [2] _ (at_ints w4 73 [2] _ rfl) (by simp)).mono ?_
  rintro e w5 ⟨g5, c5, rfl, ho, hb⟩
  obtain ⟨hf, hB⟩ := flds_step HF4.out HB4.out.size hb ho HB4.out
  have HZ5 := Lib.hid (((hb.block w.heap.size (by have := HB4.out.size; have := (Array.getElem?_eq_some_iff.1 HZ4.out).1; simp; omega)).trans (Below.heap_alloc _ _ _ (Array.getElem?_eq_some_iff.1 HZ4.out).1)).trans HZ4.out)
  have HF5 := Lib.hid hf
  have HB5 := Lib.hid hB
  clear HF4 HB4 HZ4 hf hB ho hb
  simp only [List.length_cons, List.length_nil, Nat.zero_add, Nat.reduceAdd] at *
  go_wp2_with fail
  refine (l_any (some ⟨w5.heap.size, 0, none⟩) 1 [2] _ (at_ints w5 73 [2] _ rfl) (by simp)).mono ?_
  rintro e w6 ⟨g6, c6, rfl, ho, hb⟩
  obtain ⟨hf, hB⟩ := flds_step HF5.out HB5.out.size hb ho HB5.out
  have HZ6 := Lib.hid (((hb.block w.heap.size (by have := HB5.out.size; have := (Array.getElem?_eq_some_iff.1 HZ5.out).1; simp; omega)).trans (Below.heap_alloc _ _ _ (Array.getElem?_eq_some_iff.1 HZ5.out).1)).trans HZ5.out)
  have HF6 := Lib.hid hf
  have HB6 := Lib.hid hB
  clear HF5 HB5 HZ5 hf hB ho hb
  simp only [List.length_cons, List.length_nil, Nat.zero_add, Nat.reduceAdd] at *
  go_wp2_with fail
  refine (l_any (some ⟨w6.heap.size, 0, none⟩) 5 [2, 3, 5, 6, 7] _ (at_ints w6 73 [2, 3, 5, 6, 7] _ rfl) (by simp)).mono ?_
  rintro e w7 ⟨g7, c7, rfl, ho, hb⟩
  obtain ⟨hf, hB⟩ := flds_step HF6.out HB6.out.size hb ho HB6.out
  have HZ7 := Lib.hid (((hb.block w.heap.size (by have := HB6.out.size; have := (Array.getElem?_eq_some_iff.1 HZ6.out).1; simp; omega)).trans (Below.heap_alloc _ _ _ (Array.getElem?_eq_some_iff.1 HZ6.out).1)).trans HZ6.out)
  have HF7 := Lib.hid hf
  have HB7 := Lib.hid hB
  clear HF6 HB6 HZ6 hf hB ho hb
  simp only [List.length_cons, List.length_nil, Nat.zero_add, Nat.reduceAdd] at *
  go_wp2_with fail
  refine (l_any (some ⟨w7.heap.size, 0, none⟩) 1 [2] _ (at_ints w7 73 [2] _ rfl) (by simp)).mono ?_
  rintro e w8 ⟨g8, c8, rfl, ho, hb⟩
  obtain ⟨hf, hB⟩ := flds_step HF7.out HB7.out.size hb ho HB7.out
  have HZ8 := Lib.hid (((hb.block w.heap.size (by have := HB7.out.size; have := (Array.getElem?_eq_some_iff.1 HZ7.out).1; simp; omega)).trans (Below.heap_alloc _ _ _ (Array.getElem?_eq_some_iff.1 HZ7.out).1)).trans HZ7.out)
  have HF8 := Lib.hid hf
  have HB8 := Lib.hid hB
  clear HF7 HB7 HZ7 hf hB ho hb
  simp only [List.length_cons, List.length_nil, Nat.zero_add, Nat.reduceAdd] at *
  go_wp2_with fail
  refine (l_any (some ⟨w8.heap.size, 0, none⟩) 1 [2] _ (at_ints w8 73 [2] _ rfl) (by simp)).mono ?_
  rintro e w9 ⟨g9, c9, rfl, ho, hb⟩
  obtain ⟨hf, hB⟩ := flds_step HF8.out HB8.out.size hb ho HB8.out
  have HZ9 := Lib.hid (((hb.block w.heap.size (by have := HB8.out.size; have := (Array.getElem?_eq_some_iff.1 HZ8.out).1; simp; omega)).trans (Below.heap_alloc _ _ _ (Array.getElem?_eq_some_iff.1 HZ8.out).1)).trans HZ8.out)
  have HF9 := Lib.hid hf
  have HB9 := Lib.hid hB
  clear HF8 HB8 HZ8 hf hB ho hb
  simp only [List.length_cons, List.length_nil, Nat.zero_add, Nat.reduceAdd] at *
  go_wp2_with fail
  refine (l_any (some ⟨w9.heap.size, 0, none⟩) 2 [2, 5] _ (at_ints w9 73 [2, 5] _ rfl) (by simp)).mono ?_
  rintro e w10 ⟨g10, c10, rfl, ho, hb⟩
  obtain ⟨hf, hB⟩ := flds_step HF9.out HB9.out.size hb ho HB9.out
  have HZ10 := Lib.hid (((hb.block w.heap.size (by have := HB9.out.size; have := (Array.getElem?_eq_some_iff.1 HZ9.out).1; simp; omega)).trans (Below.heap_alloc _ _ _ (Array.getElem?_eq_some_iff.1 HZ9.out).1)).trans HZ9.out)
  have HF10 := Lib.hid hf
  have HB10 := Lib.hid hB
  clear HF9 HB9 HZ9 hf hB ho hb
  simp only [List.length_cons, List.length_nil, Nat.zero_add, Nat.reduceAdd] at *
  go_wp2_with fail
  refine (l_any none 0 [] _ (At.nil _ _) (by simp)).mono ?_
  rintro e w11 ⟨g11, c11, rfl, ho, hb⟩
  have hf : Flds w11 w0.heap.size ((g11, c11, [1]) :: _) := HF10.out.next hb HB10.out.size ho
  have hB := Bl.step HB10.out hb
  have HZ11 := Lib.hid ((hb.block w.heap.size (Array.getElem?_eq_some_iff.1 HZ10.out).1).trans HZ10.out)
  have HF11 := Lib.hid hf
  have HB11 := Lib.hid hB
  clear HF10 HB10 HZ10 hf hB ho hb
  simp only [List.length_cons, List.length_nil, Nat.zero_add, Nat.reduceAdd] at *
  go_wp2_with fail
  refine (l_any (some ⟨w11.heap.size, 0, none⟩) 1 [2] _ (at_ints w11 73 [2] _ rfl) (by simp)).mono ?_
  rintro e w12 ⟨g12, c12, rfl, ho, hb⟩
  obtain ⟨hf, hB⟩ := flds_step HF11.out HB11.out.size hb ho HB11.out
  have HZ12 := Lib.hid (((hb.block w.heap.size (by have := HB11.out.size; have := (Array.getElem?_eq_some_iff.1 HZ11.out).1; simp; omega)).trans (Below.heap_alloc _ _ _ (Array.getElem?_eq_some_iff.1 HZ11.out).1)).trans HZ11.out)
  have HF12 := Lib.hid hf
  have HB12 := Lib.hid hB
  clear HF11 HB11 HZ11 hf hB ho hb
  simp only [List.length_cons, List.length_nil, Nat.zero_add, Nat.reduceAdd] at *
  go_wp2_with fail
  refine (l_any (some ⟨w12.heap.size, 0, none⟩) 1 [5] _ (at_ints w12 73 [5] _ rfl) (by simp)).mono ?_
  rintro e w13 ⟨g13, c13, rfl, ho, hb⟩
  obtain ⟨hf, hB⟩ := flds_step HF12.out HB12.out.size hb ho HB12.out
  have HZ13 := Lib.hid (((hb.block w.heap.size (by have := HB12.out.size; have := (Array.getElem?_eq_some_iff.1 HZ12.out).1; simp; omega)).trans (Below.heap_alloc _ _ _ (Array.getElem?_eq_some_iff.1 HZ12.out).1)).trans HZ12.out)
  have HF13 := Lib.hid hf
  have HB13 := Lib.hid hB
  clear HF12 HB12 HZ12 hf hB ho hb
  simp only [List.length_cons, List.length_nil, Nat.zero_add, Nat.reduceAdd] at *
  go_wp2_with (refine wpList_store_row rfl 105 (.tmp 0) (.tmp 54) rfl w.heap.size (kcells g1 c1 g2 c2 g3 c3 g4 c4 g5 c5 g6 c6 g7 c7 g8 c8 g9 c9 g10 c10 g11 c11 g12 c12 g13 c13) rfl rfl 105 _ HZ13.out (kcells_info ..) rfl (kcells_all ..) ?_)
  have hrow : (w13.setRow w.heap.size (kcells g1 c1 g2 c2 g3 c3 g4 c4 g5 c5 g6 c6 g7 c7 g8 c8 g9 c9 g10 c10 g11 c11 g12 c12 g13 c13)).heap[w.heap.size]? = some (.cells (kcells g1 c1 g2 c2 g3 c3 g4 c4 g5 c5 g6 c6 g7 c7 g8 c8 g9 c9 g10 c10 g11 c11 g12 c12 g13 c13) 105 (0, 0)) := setRow_at HZ13.out
  have hgr := setRow_grown w13 w.heap.size (kcells g1 c1 g2 c2 g3 c3 g4 c4 g5 c5 g6 c6 g7 c7 g8 c8 g9 c9 g10 c10 g11 c11 g12 c12 g13 c13)
  have HF14 := Flds.keep HF13.out hgr (by have := HS0.out; omega)
  have HB14 := Bl.grown (Bl.step HBw.out HB13.out) hgr (fun k hk => by injection hk with hk; omega)
  generalize w13.setRow w.heap.size (kcells g1 c1 g2 c2 g3 c3 g4 c4 g5 c5 g6 c6 g7 c7 g8 c8 g9 c9 g10 c10 g11 c11 g12 c12 g13 c13) = w14 at *
  refine bodyPost_ret (v := .agg (kcells g1 c1 g2 c2 g3 c3 g4 c4 g5 c5 g6 c6 g7 c7 g8 c8 g9 c9 g10 c10 g11 c11 g12 c12 g13 c13)) (results_cell_row rfl _ _ w.heap.size 105 (kcells g1 c1 g2 c2 g3 c3 g4 c4 g5 c5 g6 c6 g7 c7 g8 c8 g9 c9 g10 c10 g11 c11 g12 c12 g13 c13) (0, 0) _ rfl hrow Tryd.underlying105 rfl (kcells_info ..)) rfl ?_
  exact kinds_of (by have := HS0.out; omega) HF14 HB14
end Go.Proofs.YtemmdlanidepbaaDoor
