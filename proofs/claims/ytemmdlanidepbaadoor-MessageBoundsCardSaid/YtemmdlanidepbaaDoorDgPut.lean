/- Contracts of message.PutDatagram, millpondref18.PutDatagram. -/
import Derived.Test.YtemmdlanidepbaaDoorDgram
import Derived.Outline
namespace Go.Proofs.YtemmdlanidepbaaDoor
open Go.RowKit
set_option linter.unusedSimpArgs false
set_option maxRecDepth 100000

section
variable {ops : Array Oper} {rest : List Oper} {o : Oper} {a : Act} {w : World} {Q : Exit → Act → World → Prop}
/-- a datagram is loaded whole -/
theorem load_dg {cs : Array Value} (hs : cs.size = 6) (hgd : o.guard = none) (x : Operand) (ho : o.op = .load 53 x) (g : Nat) (hx : a.eval x = .pointer (some ⟨g, 0, none⟩)) (hg : w.heap[g]? = some (.cells cs 53 (0, 0)))
    (h : wpList Tryd.prog ops Q rest (a.put o.dst (.agg cs)) w) : wpList Tryd.prog ops Q (o :: rest) a w :=
  wpList_load_row hgd 53 x ho g hx 53 cs (0, 0) _ hg Tryd.underlying53 rfl (infoDg.trans (congrArg some hs.symm)) h
end
/-- a datagram's numbers -/
def numsD (d : Dg) : List Int := [d.fr, d.dst, d.vw, d.sq, d.ak]
/-- their forms -/
def encL (L : List Int) : List UInt8 := (L.map (fun z => enc z.toNat)).flatten
/-- a datagram's bytes -/
def putD (d : Dg) : List UInt8 := encL (numsD d) ++ encB d.body
theorem encL_snoc (L : List Int) (j : Nat) (hj : j < L.length) : encL (L.take (j + 1)) = encL (L.take j) ++ enc (L[j]).toNat := by
  unfold encL
  rw [List.take_succ_eq_append_getElem hj, List.map_append, List.flatten_append]
  simp
structure BoundsD (d : Dg) : Prop where
  nums : ∀ z ∈ numsD d, 0 ≤ z ∧ z ≤ 4611686018427387904
  body : d.body.length ≤ 256
theorem boundsD {d : Dg} (h : mayD d = true) : BoundsD d := by
  simp [mayD, nodeB, badN] at h
  refine ⟨fun z hz => ?_, by omega⟩
  simp [numsD] at hz
  omega
theorem encL_len (L : List Int) (h : ∀ z ∈ L, 0 ≤ z ∧ z ≤ 4611686018427387904) : (encL L).length ≤ 10 * L.length := by
  induction L with
  | nil => simp [encL]
  | cons z L ih =>
    have h1 := enc_len (n := z.toNat) (by unfold U64; have := h z (by simp); omega)
    have h2 := ih (fun y hy => h y (by simp [hy]))
    unfold encL at *
    simp only [List.map_cons, List.flatten_cons, List.length_append, List.length_cons]
    omega
def PutRow (w : World) (l : List UInt8) (e : Ending) (w' : World) : Prop := ∃ g c, e = .returned (.tuple #[.slice (some ⟨g, 0, none⟩) l.length c, .int .i64 0]) ∧ w'.ownsRow w.heap.size 5 1 (.slice (some ⟨g, 0, none⟩) l.length c) l.length (bv l) ∧ Below w.heap.size w w'
section
variable (d : Dg) (A : Option Addr) (c : Nat) (w : World) (HM : ∀ u, Calls Tryd.prog 67 #[.agg (dcells d A c)] u (OkD u (mayD d)))
include HM
theorem putD_no (hn : mayD d = false) : Calls Tryd.prog 27 #[.agg (dcells d A c)] w (fun e w' => e = .returned (.tuple #[.slice none 0 0, .int .i64 2]) ∧ Below w.heap.size w w') := by
  rw [hn] at HM
  have HMH := Lib.hid HM
  have HX := Lib.hid (heap_alloc_new w (.cells (dcells d A c) 53))
  have HB : Hid (Below w.heap.size w (w.alloc (.cells (dcells d A c) 53))) := Lib.hid ((Below.refl _ _).alloc (Nat.le_refl _) _)
  have HS := Lib.hid (dcells_size d A c)
  clear HM
  generalize dcells d A c = dc at *
  go_enter Tryd.func27, Tryd.ntmps27
  go_wp2_with (refine load_dg HS.out rfl (.tmp 1) rfl w.heap.size rfl HX.out ?_)
  refine (HMH.out _).mono ?_
  rintro e w1 ⟨rfl, hb⟩
  go_wp2_with fail
  go_ret2
  exact ⟨rfl, Bl.step HB.out hb⟩
set_option maxHeartbeats 4000000 in
theorem putD_yes (hy : mayD d = true) (hA : At w A (bv d.body)) : Calls Tryd.prog 27 #[.agg (dcells d A c)] w (PutRow w (putD d)) := by
  have BD := Lib.hid (boundsD hy)
  rw [hy] at HM
  have HMH := Lib.hid HM
  have HAH := Lib.hid hA
  have hb0 : Below w.heap.size w (w.alloc (.cells (dcells d A c) 53)) := (Below.refl _ _).alloc (Nat.le_refl _) _
  have HX := Lib.hid (heap_alloc_new w (.cells (dcells d A c) 53))
  have hs0 : w.heap.size < (w.alloc (.cells (dcells d A c) 53)).heap.size := by simp
  have HB := Lib.hid hb0
  clear HM hA hy hb0
  go_enter Tryd.func27, Tryd.ntmps27
  go_wp2_with (refine load_dg (dcells_size d A c) rfl (.tmp 1) rfl w.heap.size rfl HX.out ?_)
  refine (HMH.out _).mono ?_
  generalize w.alloc (.cells (dcells d A c) 53) = w0 at *
  rintro e w1 ⟨rfl, hb⟩
  have hx1 := (hb.block _ hs0).trans HX.out
  have HB1 := Lib.hid (Bl.step HB.out hb)
  have hs1 : w.heap.size < w1.heap.size := (Array.getElem?_eq_some_iff.1 hx1).1
  have q0 : w1.cell? ⟨w.heap.size, 0, none⟩ = some (.int .i64 d.fr) := by rw [cell_of_row _ _ 0 _ _ (0, 0) hx1]; rfl
  have q1 : w1.cell? ⟨w.heap.size, 1, none⟩ = some (.int .i64 d.dst) := by rw [cell_of_row _ _ 1 _ _ (0, 0) hx1]; rfl
  have q2 : w1.cell? ⟨w.heap.size, 2, none⟩ = some (.int .i64 d.vw) := by rw [cell_of_row _ _ 2 _ _ (0, 0) hx1]; rfl
  have q3 : w1.cell? ⟨w.heap.size, 3, none⟩ = some (.int .i64 d.sq) := by rw [cell_of_row _ _ 3 _ _ (0, 0) hx1]; rfl
  have q4 : w1.cell? ⟨w.heap.size, 4, none⟩ = some (.int .i64 d.ak) := by rw [cell_of_row _ _ 4 _ _ (0, 0) hx1]; rfl
  have q5 : w1.cell? ⟨w.heap.size, 5, none⟩ = some (.slice A d.body.length c) := by rw [cell_of_row _ _ 5 _ _ (0, 0) hx1]; rfl
  have HQ5 := Lib.hid q5
  have HLA := Lib.hid (at_ints w1 2 (numsD d) #[.int .i64 d.fr, .int .i64 d.dst, .int .i64 d.vw, .int .i64 d.sq, .int .i64 d.ak] rfl)
  have hba := (Below.refl w1.heap.size w1).alloc (Nat.le_refl _) (.cells #[.int .i64 d.fr, .int .i64 d.dst, .int .i64 d.vw, .int .i64 d.sq, .int .i64 d.ak] 2)
  have HB2 := Lib.hid (Bl.step HB1.out hba)
  have HQ := Lib.hid ((hba.cell (p := ⟨w.heap.size, 5, none⟩) hs1).trans HQ5.out)
  have hs2 : w1.heap.size < (w1.alloc (.cells #[.int .i64 d.fr, .int .i64 d.dst, .int .i64 d.vw, .int .i64 d.sq, .int .i64 d.ak] 2)).heap.size := by simp
  have hnl : (numsD d).length = 5 := rfl
  have HN := Lib.hid BD.out.nums
  clear hb hx1 q5 HX hba HQ5
  go_wp2_with fail
  generalize w1.alloc (.cells #[.int .i64 d.fr, .int .i64 d.dst, .int .i64 d.vw, .int .i64 d.sq, .int .i64 d.ak] 2) = w2 at *
  clear q0 q1 q2 q3 q4
  have HPU : Hid (putD d = encL (numsD d) ++ encB d.body) := Lib.hid rfl
  have HBL := Lib.hid BD.out.body
  generalize putD d = B at *
  generalize numsD d = L at *
  go_loopg [4, 6, 22] 5 (fun kk v x i wr => ∃ (j : Nat) (l : List UInt8), i = .int .i64 (j : Int) ∧ Hid (j + kk = 5 ∧ j ≤ 5 ∧ l = encL (L.take j)) ∧ wr.ownsRow w2.heap.size 5 1 v l.length (bv l) ∧ Hid (Below w2.heap.size w2 wr))
  case atStart => exact ⟨0, [], rfl, ⟨Nat.zero_add _, Nat.zero_le _, by simp [encL]⟩, World.ownsRow_nil _ _ _ _, Below.refl _ _⟩
  case round =>
    obtain ⟨j, l, rfl, hj, ho, BW⟩ := hrel
    have hel := encL_len (L.take j) (fun z hz => HN.out z (List.mem_of_mem_take hz))
    have hll : l.length ≤ 60 := by
      rw [hj.out.2.2]
      have : (L.take j).length ≤ 5 := by rw [List.length_take]; omega
      omega
    clear hel
    by_cases hlt : j < 5
    · obtain ⟨x, hx⟩ : ∃ x, L[j]'(by omega) = x := ⟨_, rfl⟩
      have hxr := HN.out x (by rw [← hx]; exact List.getElem_mem _)
      obtain ⟨e1, e2, e3⟩ := num_form x hxr.1 (by omega)
      have HNX := Lib.hid (fun u => number_any x.toNat e2 u)
      rw [e1] at HNX
      have hsn := encL_snoc L j (by omega)
      rw [hx] at hsn
      have HSN := Lib.hid hsn
      have hxl := enc_len e2
      obtain ⟨ad, hAe, hcell⟩ := (HLA.out.mono BW.out) j (.int .i64 x) (by simp [iv, List.getElem?_eq_getElem (show j < L.length by omega), hx])
      injection hAe with hAe
      subst hAe
      rw [add0] at hcell
      clear hx hsn e1 hxr
      go_wp2_with fail
      refine (HNX.out _).mono ?_
      rintro e w5 ⟨g5, c5, rfl, ho5, hb5⟩
      have ho6 := own_below ho hb5
      have hA5 := own_at ho5
      have HB5 := Lib.hid (Bl.step BW.out hb5)
      have hs5 : w2.heap.size ≤ w5.heap.size := HB5.out.size
      clear HNX hb5 ho5 hcell ho e3
      generalize enc x.toNat = nw at *
      go_wp2_with (at_builtin; refine app_rows w5 rfl _ _ 28 rfl w2.heap.size 5 (.int .u8 0) 1 1 Tryd.underlying28 infoU8 rfl (by omega) _ _ _ rfl ho6 (some ⟨g5, 0, none⟩) nw.length c5 (bv nw) rfl (by simp [bv_len]) hA5 (bv_one _) (by simp only [maxLen]; omega) (by omega) hs5 ?_; intro v' w' ho' hg hv')
      go_roundg (gk - 1)
      case measure => have := hj.out; omega
      case rel => exact ⟨j + 1, l ++ nw, (by go_num), ⟨(by have := hj.out; omega), (by omega), (by rw [HSN.out, hj.out.2.2])⟩, (by rw [bv_app, List.length_append]; exact ho'), Bl.grown HB5.out hg (fun k hk => (ho6.lt k hk).1)⟩
    · have e : l = encL L := by rw [hj.out.2.2, List.take_of_length_le (by omega)]
      have HE := Lib.hid e
      clear e
      have q := (BW.out.cell (p := ⟨w.heap.size, 5, none⟩) (by show w.heap.size < _; omega)).trans HQ.out
      have HBF := Lib.hid (Bl.step HB2.out BW.out)
      have hbl := HBL.out
      have hel := enc_len (n := d.body.length) (by unfold U64; omega)
      go_wp2_with fail
      refine (bytes_any A c d.body _ (HAH.out.mono HBF.out) (by omega)).mono ?_
      rintro e w5 ⟨g5, c5, rfl, ho5, hb5⟩
      have ho6 := own_below ho hb5
      have hA5 := own_at ho5
      have HB5 := Lib.hid (Bl.step BW.out hb5)
      have hs5 : w2.heap.size ≤ w5.heap.size := HB5.out.size
      have hnw : 1 ≤ (encB d.body).length ∧ (encB d.body).length ≤ 266 := by
        have : (enc d.body.length).length ≥ 1 := by rw [enc]; split <;> simp
        unfold encB
        rw [List.length_append]
        omega
      clear hb5 ho5 q ho
      generalize encB d.body = nw at *
      go_wp2_with (at_builtin; refine app_rows w5 rfl _ _ 28 rfl w2.heap.size 5 (.int .u8 0) 1 1 Tryd.underlying28 infoU8 rfl (by omega) _ _ _ rfl ho6 (some ⟨g5, 0, none⟩) nw.length c5 (bv nw) rfl (by simp [bv_len]) hA5 (bv_one _) (by simp only [maxLen]; omega) (by omega) hs5 ?_; intro v' w' ho' hg hv')
      go_ret2
      have HBW := Bl.grown HB5.out hg (fun k hk => (ho6.lt k hk).1)
      rw [← bv_app, ← List.length_append] at ho'
      obtain ⟨g, cc, rfl⟩ := own_pos ho' (by rw [List.length_append]; omega)
      have hpb : B = l ++ nw := by rw [HPU.out, HE.out]
      rw [hpb]
      exact ⟨g, cc, rfl, own_lower ho' HB2.out.size, Bl.step HB2.out HBW⟩
end
/-- numbers as cells of an uint64 -/
def uv (xs : List Int) : List Value := xs.map fun n : Int => .int .u64 n
theorem at_u64 (w : World) (t : TypeId) (l : List Int) (cs : Array Value) (h : cs.toList = uv l) : At (w.alloc (.cells cs t)) (some ⟨w.heap.size, 0, none⟩) (uv l) := fun j u hj => by
  refine ⟨_, rfl, ?_⟩
  rw [add0, World.cell?_alloc_new, ← Array.getElem?_toList, h]
  exact hj
set_option maxHeartbeats 4000000 in
theorem refPutD_yes (d : Dg) (A : Option Addr) (c : Nat) (w : World) (hy : mayD d = true) (hA : At w A (bv d.body)) : Calls Tryd.prog 29 #[.agg (dcells d A c)] w (NewRow w (putD d)) := by
  have BD := Lib.hid (boundsD hy)
  have HAH := Lib.hid hA
  have hb0 : Below w.heap.size w (w.alloc (.cells (dcells d A c) 53)) := (Below.refl _ _).alloc (Nat.le_refl _) _
  have hx0 := heap_alloc_new w (.cells (dcells d A c) 53)
  have hs0 : w.heap.size < (w.alloc (.cells (dcells d A c) 53)).heap.size := by simp
  have HB := Lib.hid hb0
  obtain ⟨_, _, f0⟩ := num_form d.fr (BD.out.nums _ (by simp [numsD])).1 (by have := BD.out.nums d.fr (by simp [numsD]); omega)
  obtain ⟨_, _, f1⟩ := num_form d.dst (BD.out.nums _ (by simp [numsD])).1 (by have := BD.out.nums d.dst (by simp [numsD]); omega)
  obtain ⟨_, _, f2⟩ := num_form d.vw (BD.out.nums _ (by simp [numsD])).1 (by have := BD.out.nums d.vw (by simp [numsD]); omega)
  obtain ⟨_, _, f3⟩ := num_form d.sq (BD.out.nums _ (by simp [numsD])).1 (by have := BD.out.nums d.sq (by simp [numsD]); omega)
  obtain ⟨_, _, f4⟩ := num_form d.ak (BD.out.nums _ (by simp [numsD])).1 (by have := BD.out.nums d.ak (by simp [numsD]); omega)
  have q0 : (w.alloc (.cells (dcells d A c) 53)).cell? ⟨w.heap.size, 0, none⟩ = some (.int .i64 d.fr) := by rw [cell_of_row _ _ 0 _ _ (0, 0) hx0]; rfl
  have q1 : (w.alloc (.cells (dcells d A c) 53)).cell? ⟨w.heap.size, 1, none⟩ = some (.int .i64 d.dst) := by rw [cell_of_row _ _ 1 _ _ (0, 0) hx0]; rfl
  have q2 : (w.alloc (.cells (dcells d A c) 53)).cell? ⟨w.heap.size, 2, none⟩ = some (.int .i64 d.vw) := by rw [cell_of_row _ _ 2 _ _ (0, 0) hx0]; rfl
  have q3 : (w.alloc (.cells (dcells d A c) 53)).cell? ⟨w.heap.size, 3, none⟩ = some (.int .i64 d.sq) := by rw [cell_of_row _ _ 3 _ _ (0, 0) hx0]; rfl
  have q4 : (w.alloc (.cells (dcells d A c) 53)).cell? ⟨w.heap.size, 4, none⟩ = some (.int .i64 d.ak) := by rw [cell_of_row _ _ 4 _ _ (0, 0) hx0]; rfl
  have q5 : (w.alloc (.cells (dcells d A c) 53)).cell? ⟨w.heap.size, 5, none⟩ = some (.slice A d.body.length c) := by rw [cell_of_row _ _ 5 _ _ (0, 0) hx0]; rfl
  have HQ5 := Lib.hid q5
  clear hA hy hb0 hx0 q5
  generalize dcells d A c = dc at *
  go_enter Tryd.func29, Tryd.ntmps29
  go_upto_region 2 with (fail)
  have HW1 : Hid ((w.alloc (.cells dc 53)).heap.size = w.heap.size + 1) := Lib.hid (by simp)
  generalize w.alloc (.cells dc 53) = w1 at *
  have HLA := Lib.hid (at_u64 w1 67 (numsD d) #[.int .u64 d.fr, .int .u64 d.dst, .int .u64 d.vw, .int .u64 d.sq, .int .u64 d.ak] rfl)
  have hba := (Below.refl w1.heap.size w1).alloc (Nat.le_refl _) (.cells #[.int .u64 d.fr, .int .u64 d.dst, .int .u64 d.vw, .int .u64 d.sq, .int .u64 d.ak] 67)
  have HB2 := Lib.hid (Bl.step HB.out hba)
  have HQ := Lib.hid ((hba.cell (p := ⟨w.heap.size, 5, none⟩) hs0).trans HQ5.out)
  have hs2 : w1.heap.size < (w1.alloc (.cells #[.int .u64 d.fr, .int .u64 d.dst, .int .u64 d.vw, .int .u64 d.sq, .int .u64 d.ak] 67)).heap.size := by simp
  have hnl : (numsD d).length = 5 := rfl
  have HN := Lib.hid BD.out.nums
  clear hba HQ5 q0 q1 q2 q3 q4
  try rw [f0, f1, f2, f3, f4]
  generalize w1.alloc (.cells #[.int .u64 d.fr, .int .u64 d.dst, .int .u64 d.vw, .int .u64 d.sq, .int .u64 d.ak] 67) = w2 at *
  have HPU : Hid (putD d = encL (numsD d) ++ encB d.body) := Lib.hid rfl
  have HBL := Lib.hid BD.out.body
  clear f0 f1 f2 f3 f4
  generalize putD d = B at *
  generalize numsD d = L at *
  go_wp2_with fail
  go_loopg [4, 5] 5 (fun kk v i wr => ∃ (j : Nat) (l : List UInt8), i = .int .i64 (j : Int) ∧ Hid (j + kk = 5 ∧ j ≤ 5 ∧ l = encL (L.take j)) ∧ wr.ownsRow w2.heap.size 5 1 v l.length (bv l) ∧ Hid (Below w2.heap.size w2 wr))
  case atStart => exact ⟨0, [], rfl, ⟨Nat.zero_add _, Nat.zero_le _, by simp [encL]⟩, World.ownsRow_nil _ _ _ _, Below.refl _ _⟩
  case round =>
    obtain ⟨j, l, rfl, hj, ho, BW⟩ := hrel
    have hel := encL_len (L.take j) (fun z hz => HN.out z (List.mem_of_mem_take hz))
    have hll : l.length ≤ 60 := by
      rw [hj.out.2.2]
      have : (L.take j).length ≤ 5 := by rw [List.length_take]; omega
      omega
    clear hel
    by_cases hlt : j < 5
    · obtain ⟨x, hx⟩ : ∃ x, L[j]'(by omega) = x := ⟨_, rfl⟩
      have hxr := HN.out x (by rw [← hx]; exact List.getElem_mem _)
      obtain ⟨e1, e2, e3⟩ := num_form x hxr.1 (by omega)
      have HNX := Lib.hid (fun u => refNumber_any x.toNat e2 u)
      rw [e1] at HNX
      have hsn := encL_snoc L j (by omega)
      rw [hx] at hsn
      have HSN := Lib.hid hsn
      have hxl := enc_len e2
      obtain ⟨ad, hAe, hcell⟩ := (HLA.out.mono BW.out) j (.int .u64 x) (by simp [uv, List.getElem?_eq_getElem (show j < L.length by omega), hx])
      injection hAe with hAe
      subst hAe
      rw [add0, HW1.out] at hcell
      clear hx hsn e1 hxr
      go_wp2_with fail
      refine (HNX.out _).mono ?_
      rintro e w5 ⟨g5, c5, rfl, ho5, hb5⟩
      have ho6 := own_below ho hb5
      have hA5 := own_at ho5
      have HB5 := Lib.hid (Bl.step BW.out hb5)
      have hs5 : w2.heap.size ≤ w5.heap.size := HB5.out.size
      clear HNX hb5 ho5 hcell ho e3
      generalize enc x.toNat = nw at *
      go_wp2_with (at_builtin; refine app_rows w5 rfl _ _ 28 rfl w2.heap.size 5 (.int .u8 0) 1 1 Tryd.underlying28 infoU8 rfl (by omega) _ _ _ rfl ho6 (some ⟨g5, 0, none⟩) nw.length c5 (bv nw) rfl (by simp [bv_len]) hA5 (bv_one _) (by simp only [maxLen]; omega) (by omega) hs5 ?_; intro v' w' ho' hg hv')
      go_roundg (gk - 1)
      case measure => have := hj.out; omega
      case rel => exact ⟨j + 1, l ++ nw, (by go_num), ⟨(by have := hj.out; omega), (by omega), (by rw [HSN.out, hj.out.2.2])⟩, (by rw [bv_app, List.length_append]; exact ho'), Bl.grown HB5.out hg (fun k hk => (ho6.lt k hk).1)⟩
    · have e : l = encL L := by rw [hj.out.2.2, List.take_of_length_le (by omega)]
      have HE := Lib.hid e
      clear e
      have q := (BW.out.cell (p := ⟨w.heap.size, 5, none⟩) (by show w.heap.size < _; omega)).trans HQ.out
      have HBF := Lib.hid (Bl.step HB2.out BW.out)
      have hbl := HBL.out
      have hel := enc_len (n := d.body.length) (by unfold U64; omega)
      go_wp2_with fail
      refine (refBytes_any A c d.body _ (HAH.out.mono HBF.out) (by omega)).mono ?_
      rintro e w5 ⟨g5, c5, rfl, ho5, hb5⟩
      have ho6 := own_below ho hb5
      have hA5 := own_at ho5
      have HB5 := Lib.hid (Bl.step BW.out hb5)
      have hs5 : w2.heap.size ≤ w5.heap.size := HB5.out.size
      have hnw : 1 ≤ (encB d.body).length ∧ (encB d.body).length ≤ 266 := by
        have : (enc d.body.length).length ≥ 1 := by rw [enc]; split <;> simp
        unfold encB
        rw [List.length_append]
        omega
      clear hb5 ho5 q ho
      generalize encB d.body = nw at *
      go_wp2_with (at_builtin; refine app_rows w5 rfl _ _ 28 rfl w2.heap.size 5 (.int .u8 0) 1 1 Tryd.underlying28 infoU8 rfl (by omega) _ _ _ rfl ho6 (some ⟨g5, 0, none⟩) nw.length c5 (bv nw) rfl (by simp [bv_len]) hA5 (bv_one _) (by simp only [maxLen]; omega) (by omega) hs5 ?_; intro v' w' ho' hg hv')
      go_ret
      have HBW := Bl.grown HB5.out hg (fun k hk => (ho6.lt k hk).1)
      rw [← bv_app, ← List.length_append] at ho'
      obtain ⟨g, cc, rfl⟩ := own_pos ho' (by rw [List.length_append]; omega)
      have hpb : B = l ++ nw := by rw [HPU.out, HE.out]
      rw [hpb]
      exact ⟨g, cc, rfl, own_lower ho' HB2.out.size, Bl.step HB2.out HBW⟩
end Go.Proofs.YtemmdlanidepbaaDoor
