/- Contracts of millpondref18.ReadDatagram and SameDatagram. -/
import Derived.Test.YtemmdlanidepbaaDoorDgRef
namespace Go.Proofs.YtemmdlanidepbaaDoor
open Go.RowKit
set_option linter.unusedSimpArgs false
set_option maxRecDepth 100000

theorem refDg_results (tmps : Array Value) (w : World) (px : Nat) (cs : Array Value) (z : Int) (hp : tmps.getD 2 undef = .pointer (some ⟨px, 0, none⟩)) (hq : tmps.getD 3 undef = .int .i64 z) (hs : cs.size = 6)
    (hx : w.heap[px]? = some (.cells cs 53 (0, 0))) : (results Tryd.f25 tmps).run Tryd.prog w = .ok (.tuple #[.agg cs, .int .i64 z]) w := by
  have hp' : tmps[2]?.getD undef = .pointer (some ⟨px, 0, none⟩) := by simpa using hp
  have hq' : tmps[3]?.getD undef = .int .i64 z := by simpa using hq
  have l1 := run_loadVar_row (P := Tryd.prog) w px 53 53 cs (0, 0) _ hx Tryd.underlying53 rfl (by rw [hs]; exact infoDg)
  have h : Tryd.f25.results = #[.cell 2 53, .tmp 3] := rfl
  simp [results, h, hp', hq', asAddr, l1]
theorem refDg_end {W : World} {a : Act} {px : Nat} {cs : Array Value} {z : Int} {R : Ending → World → Prop} (hp : a.tmps.getD 2 undef = .pointer (some ⟨px, 0, none⟩)) (hq : a.tmps.getD 3 undef = .int .i64 z) (hd : a.defers = []) (hs : cs.size = 6) (hx : W.heap[px]? = some (.cells cs 53 (0, 0)))
    (hR : R (.returned (.tuple #[.agg cs, .int .i64 z])) W) : bodyPost Tryd.prog Tryd.f25 R .ret a W := bodyPost_ret (v := .tuple #[.agg cs, .int .i64 z]) (refDg_results a.tmps W px cs z hp hq hs hx) hd hR
theorem refDg_long (A : Option Addr) (c : Nat) (l : List UInt8) (w : World) (hl : 512 < l.length) (hl2 : l.length ≤ 140737488355328) : Calls Tryd.prog 25 #[.slice A l.length c] w (DgR w (noD, 3)) := by
  have HX0 := Lib.hid (heap_alloc_new w (.cells #[.int .i64 0, .int .i64 0, .int .i64 0, .int .i64 0, .int .i64 0, .slice none 0 0] 53))
  have HB0 : Hid (Below w.heap.size w (w.alloc (.cells #[.int .i64 0, .int .i64 0, .int .i64 0, .int .i64 0, .int .i64 0, .slice none 0 0] 53))) := Lib.hid ((Below.refl _ _).alloc (Nat.le_refl _) _)
  go_enter Tryd.func25, Tryd.ntmps25
  go_wp2_with (refine store_dg rfl rfl zeroDg_all rfl (.tmp 2) (.tmp 11) rfl w.heap.size rfl rfl HX0.out ?_)
  exact refDg_end (cs := zeroDg) rfl rfl rfl rfl (setRow_at HX0.out) (dgR_no (Bl.grown HB0.out (setRow_grown _ _ _) (fun k hk => by injection hk with hk; omega)))
theorem dg_set {w : World} {g : Nat} {cs : Array Value} (i : Nat) (v : Value) {cs' : Array Value} (h : w.heap[g]? = some (.cells cs 53 (0, 0))) (e : cs.setIfInBounds i v = cs') : (w.setCell ⟨g, i, none⟩ v).heap[g]? = some (.cells cs' 53 (0, 0)) := by
  rw [← e]
  exact heap_setCell_same w g i cs _ v h
theorem dg_free {w : World} {g : Nat} {cs : Array Value} (i : Nat) (h : w.heap[g]? = some (.cells cs 53 (0, 0))) : w.frozen? ⟨g, i, none⟩ = false := by simp [World.frozen?, h]
theorem pD_none {o : Option (Int × Nat)} {f : Int → Nat → Option (Dg × Nat)} (h : o = none) : (match o with | none => none | some (z, q) => f z q) = none := by rw [h]
/-- loads of a datagram in a region that draws its order -/
theorem seq_load_dg {ops : Array Oper} {Q : Exit → Act → World → Prop} {T : Nat → Prop} {Bk : List Nat} {i : Nat} {o : Oper} {a : Act} {w : World} {rest : List (Nat × Bool)} (d : Option Nat) (ho : ops[i]? = some o) (hd : o.dst = d) (hw : Region.wanted o (yielded ops a.tmps) = true) (x : Operand) (hop : o.op = .load 53 x)
    (g : Nat) (cs : Array Value) (hx : a.eval x = .pointer (some ⟨g, 0, none⟩)) (hs : cs.size = 6) (hg : Up T w (fun u => u.heap[g]? = some (.cells cs 53 (0, 0))))
    (h : wpSeq Tryd.prog ops Q T Bk rest (a.put d (.agg cs)) w) : wpSeq Tryd.prog ops Q T Bk ((i, true) :: rest) a w :=
  seq_at d ho hd hw (fun u hu => by
    have := run_loadVar_row (P := Tryd.prog) u g 53 53 cs (0, 0) _ (hg u hu) Tryd.underlying53 rfl (infoDg.trans (congrArg some hs.symm))
    unfold execOp
    simp only [hop, hx, Instr.loadAt, Instr.sureAddr, Sem.run_bind, Sem.run_pure, Result.andThen_ok, this]) h
set_option maxHeartbeats 16000000 in
theorem refDg_walk (A : Option Addr) (c : Nat) (l : List UInt8) (w : World) (hA : At w A (bv l)) (hl : l.length ≤ 512) (hc : l.length ≤ c) (hblk : ∀ ad, A = some ad → ad.block < w.heap.size) :
    Calls Tryd.prog 25 #[.slice A l.length c] w (DgR w (answerD l)) := by
  have hl3 : ¬ 512 < l.length := by omega
  have HBK := Lib.hid hblk
  have HA := Lib.hid hA
  have HLC := Lib.hid hc
  clear hblk hA hc
  have hb0 : Below w.heap.size w ((((w.alloc (.cells #[.int .i64 0, .int .i64 0, .int .i64 0, .int .i64 0, .int .i64 0, .slice none 0 0] 53)).alloc (.cells #[.slice A l.length c, .int .i64 0] 93)).alloc (.cells #[.pointer (some ⟨w.heap.size + 1, 0, none⟩), .bool false] 95)).alloc (.cells #[.int .i64 0, .int .i64 0, .int .i64 0, .int .i64 0, .int .i64 0, .slice none 0 0] 53)) :=
    (((((Below.refl _ _).alloc (Nat.le_refl _) _).alloc (by simp) _).alloc (by simp <;> omega) _).alloc (by simp <;> omega) _)
  have HX0 : Hid (XR ((((w.alloc (.cells #[.int .i64 0, .int .i64 0, .int .i64 0, .int .i64 0, .int .i64 0, .slice none 0 0] 53)).alloc (.cells #[.slice A l.length c, .int .i64 0] 93)).alloc (.cells #[.pointer (some ⟨w.heap.size + 1, 0, none⟩), .bool false] 95)).alloc (.cells #[.int .i64 0, .int .i64 0, .int .i64 0, .int .i64 0, .int .i64 0, .slice none 0 0] 53)) (w.heap.size + 1 + 1) (w.heap.size + 1) A c l 0 false) := by
    refine ⟨?_, ⟨?_, HA.out.mono hb0, Nat.zero_le _, by omega, HLC.out, fun ad e h => ?_⟩, by omega, fun ad e h => ?_⟩
    · rw [heap_alloc_old _ _ (by simp)]
      have := heap_alloc_new ((w.alloc (.cells #[.int .i64 0, .int .i64 0, .int .i64 0, .int .i64 0, .int .i64 0, .slice none 0 0] 53)).alloc (.cells #[.slice A l.length c, .int .i64 0] 93)) (.cells #[.pointer (some ⟨w.heap.size + 1, 0, none⟩), .bool false] 95)
      simpa using this
    · rw [heap_alloc_old _ _ (by simp <;> omega), heap_alloc_old _ _ (by simp)]
      exact heap_alloc2_new w _ _
    · have := HBK.out ad e
      omega
    · have := HBK.out ad e
      omega
  have HZ0 : Hid (((((w.alloc (.cells #[.int .i64 0, .int .i64 0, .int .i64 0, .int .i64 0, .int .i64 0, .slice none 0 0] 53)).alloc (.cells #[.slice A l.length c, .int .i64 0] 93)).alloc (.cells #[.pointer (some ⟨w.heap.size + 1, 0, none⟩), .bool false] 95)).alloc (.cells #[.int .i64 0, .int .i64 0, .int .i64 0, .int .i64 0, .int .i64 0, .slice none 0 0] 53)).heap[w.heap.size]? = some (.cells #[.int .i64 0, .int .i64 0, .int .i64 0, .int .i64 0, .int .i64 0, .slice none 0 0] 53 (0, 0))) := by
    show _ = _
    rw [heap_alloc_old _ _ (by simp <;> omega), heap_alloc_old _ _ (by simp <;> omega)]
    exact heap_alloc2_old w _ _
  have HM0 : Hid (((((w.alloc (.cells #[.int .i64 0, .int .i64 0, .int .i64 0, .int .i64 0, .int .i64 0, .slice none 0 0] 53)).alloc (.cells #[.slice A l.length c, .int .i64 0] 93)).alloc (.cells #[.pointer (some ⟨w.heap.size + 1, 0, none⟩), .bool false] 95)).alloc (.cells #[.int .i64 0, .int .i64 0, .int .i64 0, .int .i64 0, .int .i64 0, .slice none 0 0] 53)).heap[w.heap.size + 1 + 1 + 1]? = some (.cells #[.int .i64 0, .int .i64 0, .int .i64 0, .int .i64 0, .int .i64 0, .slice none 0 0] 53 (0, 0))) := by
    show _ = _
    have := heap_alloc_new (((w.alloc (.cells #[.int .i64 0, .int .i64 0, .int .i64 0, .int .i64 0, .int .i64 0, .slice none 0 0] 53)).alloc (.cells #[.slice A l.length c, .int .i64 0] 93)).alloc (.cells #[.pointer (some ⟨w.heap.size + 1, 0, none⟩), .bool false] 95)) (.cells #[.int .i64 0, .int .i64 0, .int .i64 0, .int .i64 0, .int .i64 0, .slice none 0 0] 53)
    simpa using this
  have hs0 : w.heap.size + 1 + 1 + 1 < ((((w.alloc (.cells #[.int .i64 0, .int .i64 0, .int .i64 0, .int .i64 0, .int .i64 0, .slice none 0 0] 53)).alloc (.cells #[.slice A l.length c, .int .i64 0] 93)).alloc (.cells #[.pointer (some ⟨w.heap.size + 1, 0, none⟩), .bool false] 95)).alloc (.cells #[.int .i64 0, .int .i64 0, .int .i64 0, .int .i64 0, .int .i64 0, .slice none 0 0] 53)).heap.size := by simp
  have HB0 := Lib.hid hb0
  clear hb0
  go_enter Tryd.func25, Tryd.ntmps25
  go_wp2_with fail
  generalize (((w.alloc (.cells #[.int .i64 0, .int .i64 0, .int .i64 0, .int .i64 0, .int .i64 0, .slice none 0 0] 53)).alloc (.cells #[.slice A l.length c, .int .i64 0] 93)).alloc (.cells #[.pointer (some ⟨w.heap.size + 1, 0, none⟩), .bool false] 95)).alloc (.cells #[.int .i64 0, .int .i64 0, .int .i64 0, .int .i64 0, .int .i64 0, .slice none 0 0] 53) = w0 at *
  have HE0 : Hid (Ex (fun k => k = w.heap.size + 1 ∨ k = w.heap.size + 1 + 1 ∨ k = w.heap.size + 1 + 1 + 1) w0 w0) := Lib.hid (Ex.refl _ _)
  refine (nextG_any w0 (w.heap.size + 1 + 1) (w.heap.size + 1) A c l 0 false HX0.out).mono ?_
  rintro e v1 ⟨z0, p1, b1, rfl, hx, hex, hn⟩
  have hm : v1.heap[w.heap.size + 1 + 1 + 1]? = some (.cells #[.int .i64 0, .int .i64 0, .int .i64 0, .int .i64 0, .int .i64 0, .slice none 0 0] 53 (0, 0)) := (hex.out.block _ (Array.getElem?_eq_some_iff.1 HM0.out).1 (by omega)).trans HM0.out
  have e1 : v1.cell? ⟨w.heap.size + 1 + 1 + 1, 0, none⟩ = some (.int .i64 0) := by rw [cell_of_row _ _ 0 _ _ (0, 0) hm]; rfl
  have f1 := dg_free 0 hm
  have hst := grown_set v1 (w.heap.size + 1 + 1 + 1) 0 (.int .i64 z0)
  have HX1 := Lib.hid (hx.move hst (fun e => by injection e with e; omega) (fun e => by injection e with e; omega) (fun ad e q => by injection q with q; have := HBK.out ad e; omega))
  have HM1 : Hid (_ = some (Obj.cells #[.int .i64 z0, .int .i64 0, .int .i64 0, .int .i64 0, .int .i64 0, .slice none 0 0] 53 (0, 0))) := Lib.hid (dg_set 0 (.int .i64 z0) hm rfl)
  have HE1 := Lib.hid ((HE0.out.trans (ex3 hex.out)).trans (ex_b (g := w.heap.size + 1) (x := w.heap.size + 1 + 1) hst))
  have HP1 : Hid (b1 = true ∧ parseD l = none ∨ b1 = false ∧ parseD l = pD1 z0 l p1) := Lib.hid (by
    rcases hn.out with ⟨h1, h2⟩ | ⟨h1, h2⟩
    · exact .inl ⟨h1, by rw [parseD_0, pD0, h2]⟩
    · exact .inr ⟨h1, by rw [parseD_0, pD0, h2]⟩)
  clear hx hex hn hm hst HX0 HM0 HE0
  go_upto_region 6 with (fail)
  clear e1 f1
  generalize v1.setCell ⟨w.heap.size + 1 + 1 + 1, 0, none⟩ (.int .i64 z0) = w1 at *
  go_wp2_with fail
  refine (nextG_any w1 (w.heap.size + 1 + 1) (w.heap.size + 1) A c l p1 b1 HX1.out).mono ?_
  rintro e v2 ⟨z1, p2, b2, rfl, hx, hex, hn⟩
  have hm : v2.heap[w.heap.size + 1 + 1 + 1]? = some (.cells #[.int .i64 z0, .int .i64 0, .int .i64 0, .int .i64 0, .int .i64 0, .slice none 0 0] 53 (0, 0)) := (hex.out.block _ (Array.getElem?_eq_some_iff.1 HM1.out).1 (by omega)).trans HM1.out
  have e1 : v2.cell? ⟨w.heap.size + 1 + 1 + 1, 1, none⟩ = some (.int .i64 0) := by rw [cell_of_row _ _ 1 _ _ (0, 0) hm]; rfl
  have f1 := dg_free 1 hm
  have hst := grown_set v2 (w.heap.size + 1 + 1 + 1) 1 (.int .i64 z1)
  have HX2 := Lib.hid (hx.move hst (fun e => by injection e with e; omega) (fun e => by injection e with e; omega) (fun ad e q => by injection q with q; have := HBK.out ad e; omega))
  have HM2 : Hid (_ = some (Obj.cells #[.int .i64 z0, .int .i64 z1, .int .i64 0, .int .i64 0, .int .i64 0, .slice none 0 0] 53 (0, 0))) := Lib.hid (dg_set 1 (.int .i64 z1) hm rfl)
  have HE2 := Lib.hid ((HE1.out.trans (ex3 hex.out)).trans (ex_b (g := w.heap.size + 1) (x := w.heap.size + 1 + 1) hst))
  have HP2 : Hid (b2 = true ∧ parseD l = none ∨ b2 = false ∧ parseD l = pD2 z0 z1 l p2) := Lib.hid (by
    rcases hn.out with ⟨h1, h2⟩ | ⟨h1, h2⟩
    · refine .inl ⟨h1, ?_⟩
      rcases HP1.out with h | h
      · exact h.2
      · rw [h.2, pD1, h2]
    · rcases HP1.out with h | h
      · exact .inl ⟨h1.trans h.1, h.2⟩
      · exact .inr ⟨h1.trans h.1, by rw [h.2, pD1, h2]⟩)
  clear hx hex hn hm hst HX1 HM1 HE1 HP1
  go_upto_region 7 with (fail)
  clear e1 f1
  generalize v2.setCell ⟨w.heap.size + 1 + 1 + 1, 1, none⟩ (.int .i64 z1) = w2 at *
  go_wp2_with fail
  refine (nextG_any w2 (w.heap.size + 1 + 1) (w.heap.size + 1) A c l p2 b2 HX2.out).mono ?_
  rintro e v3 ⟨z2, p3, b3, rfl, hx, hex, hn⟩
  have hm : v3.heap[w.heap.size + 1 + 1 + 1]? = some (.cells #[.int .i64 z0, .int .i64 z1, .int .i64 0, .int .i64 0, .int .i64 0, .slice none 0 0] 53 (0, 0)) := (hex.out.block _ (Array.getElem?_eq_some_iff.1 HM2.out).1 (by omega)).trans HM2.out
  have e1 : v3.cell? ⟨w.heap.size + 1 + 1 + 1, 2, none⟩ = some (.int .i64 0) := by rw [cell_of_row _ _ 2 _ _ (0, 0) hm]; rfl
  have f1 := dg_free 2 hm
  have hst := grown_set v3 (w.heap.size + 1 + 1 + 1) 2 (.int .i64 z2)
  have HX3 := Lib.hid (hx.move hst (fun e => by injection e with e; omega) (fun e => by injection e with e; omega) (fun ad e q => by injection q with q; have := HBK.out ad e; omega))
  have HM3 : Hid (_ = some (Obj.cells #[.int .i64 z0, .int .i64 z1, .int .i64 z2, .int .i64 0, .int .i64 0, .slice none 0 0] 53 (0, 0))) := Lib.hid (dg_set 2 (.int .i64 z2) hm rfl)
  have HE3 := Lib.hid ((HE2.out.trans (ex3 hex.out)).trans (ex_b (g := w.heap.size + 1) (x := w.heap.size + 1 + 1) hst))
  have HP3 : Hid (b3 = true ∧ parseD l = none ∨ b3 = false ∧ parseD l = pD3 z0 z1 z2 l p3) := Lib.hid (by
    rcases hn.out with ⟨h1, h2⟩ | ⟨h1, h2⟩
    · refine .inl ⟨h1, ?_⟩
      rcases HP2.out with h | h
      · exact h.2
      · rw [h.2, pD2, h2]
    · rcases HP2.out with h | h
      · exact .inl ⟨h1.trans h.1, h.2⟩
      · exact .inr ⟨h1.trans h.1, by rw [h.2, pD2, h2]⟩)
  clear hx hex hn hm hst HX2 HM2 HE2 HP2
  go_upto_region 8 with (fail)
  clear e1 f1
  generalize v3.setCell ⟨w.heap.size + 1 + 1 + 1, 2, none⟩ (.int .i64 z2) = w3 at *
  go_wp2_with fail
  refine (nextG_any w3 (w.heap.size + 1 + 1) (w.heap.size + 1) A c l p3 b3 HX3.out).mono ?_
  rintro e v4 ⟨z3, p4, b4, rfl, hx, hex, hn⟩
  have hm : v4.heap[w.heap.size + 1 + 1 + 1]? = some (.cells #[.int .i64 z0, .int .i64 z1, .int .i64 z2, .int .i64 0, .int .i64 0, .slice none 0 0] 53 (0, 0)) := (hex.out.block _ (Array.getElem?_eq_some_iff.1 HM3.out).1 (by omega)).trans HM3.out
  have e1 : v4.cell? ⟨w.heap.size + 1 + 1 + 1, 3, none⟩ = some (.int .i64 0) := by rw [cell_of_row _ _ 3 _ _ (0, 0) hm]; rfl
  have f1 := dg_free 3 hm
  have hst := grown_set v4 (w.heap.size + 1 + 1 + 1) 3 (.int .i64 z3)
  have HX4 := Lib.hid (hx.move hst (fun e => by injection e with e; omega) (fun e => by injection e with e; omega) (fun ad e q => by injection q with q; have := HBK.out ad e; omega))
  have HM4 : Hid (_ = some (Obj.cells #[.int .i64 z0, .int .i64 z1, .int .i64 z2, .int .i64 z3, .int .i64 0, .slice none 0 0] 53 (0, 0))) := Lib.hid (dg_set 3 (.int .i64 z3) hm rfl)
  have HE4 := Lib.hid ((HE3.out.trans (ex3 hex.out)).trans (ex_b (g := w.heap.size + 1) (x := w.heap.size + 1 + 1) hst))
  have HP4 : Hid (b4 = true ∧ parseD l = none ∨ b4 = false ∧ parseD l = pD4 z0 z1 z2 z3 l p4) := Lib.hid (by
    rcases hn.out with ⟨h1, h2⟩ | ⟨h1, h2⟩
    · refine .inl ⟨h1, ?_⟩
      rcases HP3.out with h | h
      · exact h.2
      · rw [h.2, pD3, h2]
    · rcases HP3.out with h | h
      · exact .inl ⟨h1.trans h.1, h.2⟩
      · exact .inr ⟨h1.trans h.1, by rw [h.2, pD3, h2]⟩)
  clear hx hex hn hm hst HX3 HM3 HE3 HP3
  go_upto_region 9 with (fail)
  clear e1 f1
  generalize v4.setCell ⟨w.heap.size + 1 + 1 + 1, 3, none⟩ (.int .i64 z3) = w4 at *
  go_wp2_with fail
  refine (nextG_any w4 (w.heap.size + 1 + 1) (w.heap.size + 1) A c l p4 b4 HX4.out).mono ?_
  rintro e v5 ⟨z4, p5, b5, rfl, hx, hex, hn⟩
  have hm : v5.heap[w.heap.size + 1 + 1 + 1]? = some (.cells #[.int .i64 z0, .int .i64 z1, .int .i64 z2, .int .i64 z3, .int .i64 0, .slice none 0 0] 53 (0, 0)) := (hex.out.block _ (Array.getElem?_eq_some_iff.1 HM4.out).1 (by omega)).trans HM4.out
  have e1 : v5.cell? ⟨w.heap.size + 1 + 1 + 1, 4, none⟩ = some (.int .i64 0) := by rw [cell_of_row _ _ 4 _ _ (0, 0) hm]; rfl
  have f1 := dg_free 4 hm
  have hst := grown_set v5 (w.heap.size + 1 + 1 + 1) 4 (.int .i64 z4)
  have HX5 := Lib.hid (hx.move hst (fun e => by injection e with e; omega) (fun e => by injection e with e; omega) (fun ad e q => by injection q with q; have := HBK.out ad e; omega))
  have HM5 : Hid (_ = some (Obj.cells #[.int .i64 z0, .int .i64 z1, .int .i64 z2, .int .i64 z3, .int .i64 z4, .slice none 0 0] 53 (0, 0))) := Lib.hid (dg_set 4 (.int .i64 z4) hm rfl)
  have HE5 := Lib.hid ((HE4.out.trans (ex3 hex.out)).trans (ex_b (g := w.heap.size + 1) (x := w.heap.size + 1 + 1) hst))
  have HP5 : Hid (b5 = true ∧ parseD l = none ∨ b5 = false ∧ parseD l = pD5 z0 z1 z2 z3 z4 l p5) := Lib.hid (by
    rcases hn.out with ⟨h1, h2⟩ | ⟨h1, h2⟩
    · refine .inl ⟨h1, ?_⟩
      rcases HP4.out with h | h
      · exact h.2
      · rw [h.2, pD4, h2]
    · rcases HP4.out with h | h
      · exact .inl ⟨h1.trans h.1, h.2⟩
      · exact .inr ⟨h1.trans h.1, by rw [h.2, pD4, h2]⟩)
  clear hx hex hn hm hst HX4 HM4 HE4 HP4
  go_upto_region 10 with (fail)
  clear e1 f1
  generalize v5.setCell ⟨w.heap.size + 1 + 1 + 1, 4, none⟩ (.int .i64 z4) = w5 at *
  have x0 := HX5.out.cell0
  go_wp2_with fail
  refine (nextB6_any w5 (w.heap.size + 1) A c l p5 HX5.out.rdr).mono ?_
  rintro e v6 ⟨v, news, p6, q, rfl, ho, hr, hg, hq⟩
  obtain ⟨Av, cv, rfl, _⟩ := own_form ho
  have hx := HX5.out.read hr hg.out
  have hm : v6.heap[w.heap.size + 1 + 1 + 1]? = some (.cells #[.int .i64 z0, .int .i64 z1, .int .i64 z2, .int .i64 z3, .int .i64 z4, .slice none 0 0] 53 (0, 0)) := (hg.out.block _ (Array.getElem?_eq_some_iff.1 HM5.out).1 (fun e => by injection e with e; omega)).trans HM5.out
  have e1 : v6.cell? ⟨w.heap.size + 1 + 1 + 1, 5, none⟩ = some (.slice none 0 0) := by rw [cell_of_row _ _ 5 _ _ (0, 0) hm]; rfl
  have f1 := dg_free 5 hm
  have hs5 : w.heap.size + 1 + 1 + 1 < w5.heap.size := (Array.getElem?_eq_some_iff.1 HM5.out).1
  have hst := grown_set v6 (w.heap.size + 1 + 1 + 1) 5 (.slice Av news.length cv)
  have HX6 := Lib.hid (hx.move hst (fun e => by injection e with e; omega) (fun e => by injection e with e; omega) (fun ad e q => by injection q with q; have := HBK.out ad e; omega))
  have HM6 : Hid (_ = some (Obj.cells (dcells ⟨z0, z1, z2, z3, z4, news⟩ Av cv) 53 (0, 0))) := Lib.hid (dg_set 5 (.slice Av news.length cv) hm rfl)
  have HE6 := Lib.hid ((HE5.out.trans (ex3 (ex_g (x := w.heap.size + 1 + 1) hg.out))).trans (ex_b (g := w.heap.size + 1) (x := w.heap.size + 1 + 1) hst))
  have HO6 := Lib.hid (own_keep ho hst hs5)
  have HNL : Hid (news.length ≤ 256) := Lib.hid hq.out.1
  have HP6 : Hid ((b5 = true ∨ q ≠ 0) ∧ parseD l = none ∨ b5 = false ∧ q = 0 ∧ parseD l = some (⟨z0, z1, z2, z3, z4, news⟩, p6)) := Lib.hid (by
    rcases HP5.out with h | h
    · exact .inl ⟨.inl h.1, h.2⟩
    · rcases hq.out.2 with ⟨h1, h2⟩ | ⟨h1, h2⟩
      · exact .inl ⟨.inr (by omega), by rw [h.2, pD5, h2]⟩
      · exact .inr ⟨h.1, h1, by rw [h.2, pD5, h2]⟩)
  clear hx hm hst HX5 HM5 HE5 HP5 ho hr hg hq x0
  go_upto_region 12 with (fail)
  clear e1 f1
  generalize v6.setCell ⟨w.heap.size + 1 + 1 + 1, 5, none⟩ (.slice Av news.length cv) = w6 at *
  have x1 := HX6.out.cell1
  have BEND : Hid (Below w.heap.size w w6) := Lib.hid (HB0.out.trans (below_of_ex (T := fun k => k = w.heap.size + 1 ∨ k = w.heap.size + 1 + 1 ∨ k = w.heap.size + 1 + 1 + 1) HE6.out (fun k hk => by omega) (by omega)))
  have HZ6 := Lib.hid ((HE6.out.block w.heap.size (by omega) (by omega)).trans HZ0.out)
  have HFR : Hid (∀ ad, Av = some ad → w.heap.size < ad.block) := Lib.hid (fun ad e => by
    subst e
    rcases HO6.out.2 with ⟨h1, _⟩ | ⟨gq, cap, cur, h1, h2, _⟩
    · cases h1
    · injection h1 with h1
      injection h1 with h1
      subst h1
      have : w5.heap.size ≤ gq := h2
      show w.heap.size < gq
      omega)
  have HAV := Lib.hid (own_at HO6.out)
  have HAL : Hid (At w6 A (bv l)) := Lib.hid HX6.out.rdr.bytes
  clear HE6 HO6 HX6 HZ0
  cases b5 with
  | true =>
    have HV : Hid (answerD l = (noD, 4)) := Lib.hid (by rw [answerD_ref hl, HP6.out.elim (fun h => h.2) (fun h => by cases h.1)])
    refine wp_region_seq (fun _ => False) [] [(0, true), (1, true), (2, true), (3, true), (4, true), (5, true), (6, true), (7, true), (8, true), (9, true), (10, false), (11, true), (12, true), (13, true), (14, true), (17, true), (18, true), (15, false), (16, true), (19, true), (20, true)] (by kernel_rfl) (by kernel_rfl) (fun _ _ d _ _ h => by cases d <;> exact h) rfl (by kernel_rfl) ?_
    have U : Up (fun _ => False) w6.drew (fun u => u.cell? ⟨w.heap.size + 1 + 1, 1, none⟩ = some (.bool true)) := Up.cell (by simpa using x1) (fun h => h)
    refine seq_at (some 42) (v := ?_) rfl (by kernel_rfl) (by kernel_rfl) ?_ ?_
    rotate_left
    · intro w' hw'
      go_simp
      try with_reducible rfl
    simp only [Act.put, List.setIfInBounds_toArray, List.set_cons_zero, List.set_cons_succ]
    refine seq_at (some 43) (v := ?_) rfl (by kernel_rfl) (by kernel_rfl) ?_ ?_
    rotate_left
    · intro w' hw'
      go_simp
      try with_reducible rfl
    simp only [Act.put, List.setIfInBounds_toArray, List.set_cons_zero, List.set_cons_succ]
    refine seq_at (some 44) (v := ?_) rfl (by kernel_rfl) (by kernel_rfl) ?_ ?_
    rotate_left
    · intro w' hw'
      go_simp
      try with_reducible rfl
    simp only [Act.put, List.setIfInBounds_toArray, List.set_cons_zero, List.set_cons_succ]
    refine seq_at (some 45) (v := ?_) rfl (by kernel_rfl) (by kernel_rfl) ?_ ?_
    rotate_left
    · intro w' hw'
      obtain q0 := U w' hw'
      go_simp
      try with_reducible rfl
    simp only [Act.put, List.setIfInBounds_toArray, List.set_cons_zero, List.set_cons_succ]
    refine seq_at (some 46) (v := ?_) rfl (by kernel_rfl) (by kernel_rfl) ?_ ?_
    rotate_left
    · intro w' hw'
      go_simp
      try with_reducible rfl
    simp only [Act.put, List.setIfInBounds_toArray, List.set_cons_zero, List.set_cons_succ]
    refine seq_skip (some 47) rfl (by kernel_rfl) (by kernel_rfl) ?_
    simp only [Act.put, List.setIfInBounds_toArray, List.set_cons_zero, List.set_cons_succ]
    refine seq_skip (some 48) rfl (by kernel_rfl) (by kernel_rfl) ?_
    simp only [Act.put, List.setIfInBounds_toArray, List.set_cons_zero, List.set_cons_succ]
    refine seq_at (some 49) (v := ?_) rfl (by kernel_rfl) (by kernel_rfl) ?_ ?_
    rotate_left
    · intro w' hw'
      go_simp
      try with_reducible rfl
    simp only [Act.put, List.setIfInBounds_toArray, List.set_cons_zero, List.set_cons_succ]
    refine seq_at (some 50) (v := ?_) rfl (by kernel_rfl) (by kernel_rfl) ?_ ?_
    rotate_left
    · intro w' hw'
      go_simp
      try with_reducible rfl
    simp only [Act.put, List.setIfInBounds_toArray, List.set_cons_zero, List.set_cons_succ]
    refine seq_skip (some 51) rfl (by kernel_rfl) (by kernel_rfl) ?_
    simp only [Act.put, List.setIfInBounds_toArray, List.set_cons_zero, List.set_cons_succ]
    refine seq_skip (some 52) rfl (by kernel_rfl) (by kernel_rfl) ?_
    simp only [Act.put, List.setIfInBounds_toArray, List.set_cons_zero, List.set_cons_succ]
    refine seq_skip (some 53) rfl (by kernel_rfl) (by kernel_rfl) ?_
    simp only [Act.put, List.setIfInBounds_toArray, List.set_cons_zero, List.set_cons_succ]
    refine seq_at (some 54) (v := ?_) rfl (by kernel_rfl) (by kernel_rfl) ?_ ?_
    rotate_left
    · intro w' hw'
      go_simp
      try with_reducible rfl
    simp only [Act.put, List.setIfInBounds_toArray, List.set_cons_zero, List.set_cons_succ]
    refine seq_at (some 55) (v := ?_) rfl (by kernel_rfl) (by kernel_rfl) ?_ ?_
    rotate_left
    · intro w' hw'
      go_simp
      try with_reducible rfl
    simp only [Act.put, List.setIfInBounds_toArray, List.set_cons_zero, List.set_cons_succ]
    refine seq_skip (some 56) rfl (by kernel_rfl) (by kernel_rfl) ?_
    simp only [Act.put, List.setIfInBounds_toArray, List.set_cons_zero, List.set_cons_succ]
    refine seq_skip (some 59) rfl (by kernel_rfl) (by kernel_rfl) ?_
    simp only [Act.put, List.setIfInBounds_toArray, List.set_cons_zero, List.set_cons_succ]
    refine seq_skip (some 60) rfl (by kernel_rfl) (by kernel_rfl) ?_
    simp only [Act.put, List.setIfInBounds_toArray, List.set_cons_zero, List.set_cons_succ]
    refine seq_skip (some 57) rfl (by kernel_rfl) (by kernel_rfl) ?_
    simp only [Act.put, List.setIfInBounds_toArray, List.set_cons_zero, List.set_cons_succ]
    refine seq_skip (some 58) rfl (by kernel_rfl) (by kernel_rfl) ?_
    simp only [Act.put, List.setIfInBounds_toArray, List.set_cons_zero, List.set_cons_succ]
    refine seq_skip (some 61) rfl (by kernel_rfl) (by kernel_rfl) ?_
    simp only [Act.put, List.setIfInBounds_toArray, List.set_cons_zero, List.set_cons_succ]
    refine seq_at (some 62) (v := ?_) rfl (by kernel_rfl) (by kernel_rfl) ?_ ?_
    rotate_left
    · intro w' hw'
      go_simp
      try with_reducible rfl
    simp only [Act.put, List.setIfInBounds_toArray, List.set_cons_zero, List.set_cons_succ]
    refine seq_nil ?_
    have HZD : Hid (w6.drew.heap[w.heap.size]? = some (.cells #[.int .i64 0, .int .i64 0, .int .i64 0, .int .i64 0, .int .i64 0, .slice none 0 0] 53 (0, 0))) := HZ6.out
    have BED : Hid (Below w.heap.size w w6.drew) := BEND.out.drew
    generalize w6.drew = wd at *
    go_wp2_with (refine store_dg (cs := zeroDg) rfl rfl zeroDg_all rfl (.tmp 2) (.tmp 63) rfl w.heap.size rfl rfl HZD.out ?_)
    rw [HV.out]
    exact refDg_end (cs := zeroDg) rfl rfl rfl rfl (setRow_at HZD.out) (dgR_no (Bl.grown BED.out (setRow_grown wd w.heap.size zeroDg) (fun k hk => by injection hk with hk; omega)))
  | false =>
    by_cases hq0 : q = 0
    · subst hq0
      have hpar : parseD l = some (⟨z0, z1, z2, z3, z4, news⟩, p6) := HP6.out.elim (fun h => by rcases h.1 with h | h <;> simp at h) (fun h => h.2.2)
      have HMD := Lib.hid (fun u => refMayD_walk ⟨z0, z1, z2, z3, z4, news⟩ Av cv u (by have := HNL.out; show news.length ≤ _; omega))
      have HS := Lib.hid (dcells_size ⟨z0, z1, z2, z3, z4, news⟩ Av cv)
      have HDA := Lib.hid (dcells_all ⟨z0, z1, z2, z3, z4, news⟩ Av cv)
      cases hyy : mayD ⟨z0, z1, z2, z3, z4, news⟩ with
      | false =>
        have HV : Hid (answerD l = (noD, 4)) := Lib.hid (by rw [answerD_ref hl, hpar]; simp [hyy])
        rw [hyy] at HMD
        clear hyy hpar
        obtain ⟨dc, hdc⟩ : ∃ dc, dc = dcells ⟨z0, z1, z2, z3, z4, news⟩ Av cv := ⟨_, rfl⟩
        rw [← hdc] at HS HDA HMD HM6
        clear hdc
        refine wp_region_seq (fun _ => False) [] [(0, true), (1, true), (2, true), (3, true), (4, true), (5, true), (6, true), (7, true), (8, true), (9, true), (10, false), (11, true), (12, true), (13, true), (14, true), (17, true), (18, true), (15, false), (16, true), (19, true), (20, true)] (by kernel_rfl) (by kernel_rfl) (fun _ _ d _ _ h => by cases d <;> exact h) rfl (by kernel_rfl) ?_
        have U : Up (fun _ => False) w6.drew (fun u => u.cell? ⟨w.heap.size + 1 + 1, 1, none⟩ = some (.bool false)) := Up.cell (by simpa using x1) (fun h => h)
        refine seq_at (some 42) (v := ?_) rfl (by kernel_rfl) (by kernel_rfl) ?_ ?_
        rotate_left
        · intro w' hw'
          go_simp
          try with_reducible rfl
        simp only [Act.put, List.setIfInBounds_toArray, List.set_cons_zero, List.set_cons_succ]
        refine seq_at (some 43) (v := ?_) rfl (by kernel_rfl) (by kernel_rfl) ?_ ?_
        rotate_left
        · intro w' hw'
          go_simp
          try with_reducible rfl
        simp only [Act.put, List.setIfInBounds_toArray, List.set_cons_zero, List.set_cons_succ]
        refine seq_at (some 44) (v := ?_) rfl (by kernel_rfl) (by kernel_rfl) ?_ ?_
        rotate_left
        · intro w' hw'
          go_simp
          try with_reducible rfl
        simp only [Act.put, List.setIfInBounds_toArray, List.set_cons_zero, List.set_cons_succ]
        refine seq_at (some 45) (v := ?_) rfl (by kernel_rfl) (by kernel_rfl) ?_ ?_
        rotate_left
        · intro w' hw'
          obtain q0 := U w' hw'
          go_simp
          try with_reducible rfl
        simp only [Act.put, List.setIfInBounds_toArray, List.set_cons_zero, List.set_cons_succ]
        refine seq_at (some 46) (v := ?_) rfl (by kernel_rfl) (by kernel_rfl) ?_ ?_
        rotate_left
        · intro w' hw'
          go_simp
          try with_reducible rfl
        simp only [Act.put, List.setIfInBounds_toArray, List.set_cons_zero, List.set_cons_succ]
        have hy6 : w6.drew.heap[w.heap.size + 1 + 1 + 1]? = some (.cells dc 53 (0, 0)) := HM6.out
        have UY := Lib.hid (Up.blk (T := fun _ => False) hy6 (fun h => h))
        have hz6 : w6.drew.heap[w.heap.size]? = some (.cells #[.int .i64 0, .int .i64 0, .int .i64 0, .int .i64 0, .int .i64 0, .slice none 0 0] 53 (0, 0)) := HZ6.out
        have UZ := Lib.hid (Up.blk (T := fun _ => False) hz6 (fun h => h))
        have UA := Lib.hid (Up.bytes (T := fun _ => False) (w := w6.drew) (show At w6.drew A (bv l) from HAL.out) (fun _ _ h => h))
        have UV := Lib.hid (Up.bytes (T := fun _ => False) (w := w6.drew) (show At w6.drew Av (bv news) from HAV.out) (fun _ _ h => h))
        have BED : Hid (Below w.heap.size w w6.drew) := BEND.out.drew
        clear hy6 hz6 HZ6 HM6 HAL HAV BEND x1 U
        generalize w6.drew = wd at *
        refine seq_at (some 47) (v := ?_) rfl (by kernel_rfl) (by kernel_rfl) ?_ ?_
        rotate_left
        · intro w' hw'
          go_simp
          try with_reducible rfl
        simp only [Act.put, List.setIfInBounds_toArray, List.set_cons_zero, List.set_cons_succ]
        refine seq_at (some 48) (v := ?_) rfl (by kernel_rfl) (by kernel_rfl) ?_ ?_
        rotate_left
        · intro w' hw'
          go_simp
          try with_reducible rfl
        simp only [Act.put, List.setIfInBounds_toArray, List.set_cons_zero, List.set_cons_succ]
        refine seq_at (some 49) (v := ?_) rfl (by kernel_rfl) (by kernel_rfl) ?_ ?_
        rotate_left
        · intro w' hw'
          go_simp
          try with_reducible rfl
        simp only [Act.put, List.setIfInBounds_toArray, List.set_cons_zero, List.set_cons_succ]
        refine seq_at (some 50) (v := ?_) rfl (by kernel_rfl) (by kernel_rfl) ?_ ?_
        rotate_left
        · intro w' hw'
          go_simp
          try with_reducible rfl
        simp only [Act.put, List.setIfInBounds_toArray, List.set_cons_zero, List.set_cons_succ]
        refine seq_load_dg (some 51) rfl (by kernel_rfl) (by kernel_rfl) (.tmp 5) (by kernel_rfl) (w.heap.size + 1 + 1 + 1) dc rfl HS.out UY.out ?_
        simp only [Act.put, List.setIfInBounds_toArray, List.set_cons_zero, List.set_cons_succ]
        refine seq_eff rfl (by kernel_rfl) (fun K hK => ?_)
        go_simp
        refine (HMD.out _).mono ?_
        rintro e w8 ⟨rfl, hb8⟩
        refine hK.out _ _ (.inl (Ex.below hb8)) ?_
        try simp only [Act.put, List.setIfInBounds_toArray, List.set_cons_zero, List.set_cons_succ]
        clear hK
        have UY8 := Lib.hid (UY.out.later (Ex.below hb8))
        have UZ8 := Lib.hid (UZ.out.later (Ex.below hb8))
        have UA8 := Lib.hid (UA.out.later (Ex.below hb8))
        have UV8 := Lib.hid (UV.out.later (Ex.below hb8))
        have B8 := Lib.hid (Bl.step BED.out hb8)
        clear hb8 UY UZ UA UV BED
        refine seq_at (some 53) (v := ?_) rfl (by kernel_rfl) (by kernel_rfl) ?_ ?_
        rotate_left
        · intro w' hw'
          go_simp
          try with_reducible rfl
        simp only [Act.put, List.setIfInBounds_toArray, List.set_cons_zero, List.set_cons_succ]
        refine seq_at (some 54) (v := ?_) rfl (by kernel_rfl) (by kernel_rfl) ?_ ?_
        rotate_left
        · intro w' hw'
          go_simp
          try with_reducible rfl
        simp only [Act.put, List.setIfInBounds_toArray, List.set_cons_zero, List.set_cons_succ]
        refine seq_at (some 55) (v := ?_) rfl (by kernel_rfl) (by kernel_rfl) ?_ ?_
        rotate_left
        · intro w' hw'
          go_simp
          try with_reducible rfl
        simp only [Act.put, List.setIfInBounds_toArray, List.set_cons_zero, List.set_cons_succ]
        refine seq_skip (some 56) rfl (by kernel_rfl) (by kernel_rfl) ?_
        simp only [Act.put, List.setIfInBounds_toArray, List.set_cons_zero, List.set_cons_succ]
        refine seq_skip (some 59) rfl (by kernel_rfl) (by kernel_rfl) ?_
        simp only [Act.put, List.setIfInBounds_toArray, List.set_cons_zero, List.set_cons_succ]
        refine seq_skip (some 60) rfl (by kernel_rfl) (by kernel_rfl) ?_
        simp only [Act.put, List.setIfInBounds_toArray, List.set_cons_zero, List.set_cons_succ]
        refine seq_skip (some 57) rfl (by kernel_rfl) (by kernel_rfl) ?_
        simp only [Act.put, List.setIfInBounds_toArray, List.set_cons_zero, List.set_cons_succ]
        refine seq_skip (some 58) rfl (by kernel_rfl) (by kernel_rfl) ?_
        simp only [Act.put, List.setIfInBounds_toArray, List.set_cons_zero, List.set_cons_succ]
        refine seq_skip (some 61) rfl (by kernel_rfl) (by kernel_rfl) ?_
        simp only [Act.put, List.setIfInBounds_toArray, List.set_cons_zero, List.set_cons_succ]
        refine seq_at (some 62) (v := ?_) rfl (by kernel_rfl) (by kernel_rfl) ?_ ?_
        rotate_left
        · intro w' hw'
          go_simp
          try with_reducible rfl
        simp only [Act.put, List.setIfInBounds_toArray, List.set_cons_zero, List.set_cons_succ]
        refine seq_nil ?_
        have HZD : Hid (w8.heap[w.heap.size]? = some (.cells #[.int .i64 0, .int .i64 0, .int .i64 0, .int .i64 0, .int .i64 0, .slice none 0 0] 53 (0, 0))) := UZ8.out _ (Ex.refl _ _)
        have BED : Hid (Below w.heap.size w w8) := B8.out
        clear UY8 UZ8 UA8 UV8 B8
        generalize w8 = wd at *
        go_wp2_with (refine store_dg (cs := zeroDg) rfl rfl zeroDg_all rfl (.tmp 2) (.tmp 63) rfl w.heap.size rfl rfl HZD.out ?_)
        rw [HV.out]
        exact refDg_end (cs := zeroDg) rfl rfl rfl rfl (setRow_at HZD.out) (dgR_no (Bl.grown BED.out (setRow_grown wd w.heap.size zeroDg) (fun k hk => by injection hk with hk; omega)))
      | true =>
        rw [hyy] at HMD
        have HPUT : Hid (∀ u, At u Av (bv news) → Calls Tryd.prog 29 #[.agg (dcells ⟨z0, z1, z2, z3, z4, news⟩ Av cv)] u (NewRow u (putD ⟨z0, z1, z2, z3, z4, news⟩))) := Lib.hid (fun u h => refPutD_yes ⟨z0, z1, z2, z3, z4, news⟩ Av cv u hyy h)
        by_cases hne : putD ⟨z0, z1, z2, z3, z4, news⟩ = l
        · have HV : Hid (answerD l = (⟨z0, z1, z2, z3, z4, news⟩, 0)) := Lib.hid (by rw [answerD_ref hl, hpar]; simp [hyy, hne])
          have HDG : Hid (∀ W : World, At W Av (bv news) → Below w.heap.size w W → DgR w (⟨z0, z1, z2, z3, z4, news⟩, 0) (.returned (.tuple #[.agg (dcells ⟨z0, z1, z2, z3, z4, news⟩ Av cv), .int .i64 0])) W) := Lib.hid (fun W h1 h2 => ⟨Av, cv, rfl, h1, fun ad e => Nat.le_of_lt (HFR.out ad e), h2⟩)
          clear hyy hpar
          obtain ⟨dc, hdc⟩ : ∃ dc, dc = dcells ⟨z0, z1, z2, z3, z4, news⟩ Av cv := ⟨_, rfl⟩
          rw [← hdc] at HS HDA HMD HM6 HPUT HDG
          clear hdc
          have HNE := Lib.hid hne
          clear hne
          generalize putD ⟨z0, z1, z2, z3, z4, news⟩ = PB at *
          refine wp_region_seq (fun _ => False) [] [(0, true), (1, true), (2, true), (3, true), (4, true), (5, true), (6, true), (7, true), (8, true), (9, true), (10, false), (11, true), (12, true), (13, true), (14, true), (17, true), (18, true), (15, false), (16, true), (19, true), (20, true)] (by kernel_rfl) (by kernel_rfl) (fun _ _ d _ _ h => by cases d <;> exact h) rfl (by kernel_rfl) ?_
          have U : Up (fun _ => False) w6.drew (fun u => u.cell? ⟨w.heap.size + 1 + 1, 1, none⟩ = some (.bool false)) := Up.cell (by simpa using x1) (fun h => h)
          refine seq_at (some 42) (v := ?_) rfl (by kernel_rfl) (by kernel_rfl) ?_ ?_
          rotate_left
          · intro w' hw'
            go_simp
            try with_reducible rfl
          simp only [Act.put, List.setIfInBounds_toArray, List.set_cons_zero, List.set_cons_succ]
          refine seq_at (some 43) (v := ?_) rfl (by kernel_rfl) (by kernel_rfl) ?_ ?_
          rotate_left
          · intro w' hw'
            go_simp
            try with_reducible rfl
          simp only [Act.put, List.setIfInBounds_toArray, List.set_cons_zero, List.set_cons_succ]
          refine seq_at (some 44) (v := ?_) rfl (by kernel_rfl) (by kernel_rfl) ?_ ?_
          rotate_left
          · intro w' hw'
            go_simp
            try with_reducible rfl
          simp only [Act.put, List.setIfInBounds_toArray, List.set_cons_zero, List.set_cons_succ]
          refine seq_at (some 45) (v := ?_) rfl (by kernel_rfl) (by kernel_rfl) ?_ ?_
          rotate_left
          · intro w' hw'
            obtain q0 := U w' hw'
            go_simp
            try with_reducible rfl
          simp only [Act.put, List.setIfInBounds_toArray, List.set_cons_zero, List.set_cons_succ]
          refine seq_at (some 46) (v := ?_) rfl (by kernel_rfl) (by kernel_rfl) ?_ ?_
          rotate_left
          · intro w' hw'
            go_simp
            try with_reducible rfl
          simp only [Act.put, List.setIfInBounds_toArray, List.set_cons_zero, List.set_cons_succ]
          have hy6 : w6.drew.heap[w.heap.size + 1 + 1 + 1]? = some (.cells dc 53 (0, 0)) := HM6.out
          have UY := Lib.hid (Up.blk (T := fun _ => False) hy6 (fun h => h))
          have hz6 : w6.drew.heap[w.heap.size]? = some (.cells #[.int .i64 0, .int .i64 0, .int .i64 0, .int .i64 0, .int .i64 0, .slice none 0 0] 53 (0, 0)) := HZ6.out
          have UZ := Lib.hid (Up.blk (T := fun _ => False) hz6 (fun h => h))
          have UA := Lib.hid (Up.bytes (T := fun _ => False) (w := w6.drew) (show At w6.drew A (bv l) from HAL.out) (fun _ _ h => h))
          have UV := Lib.hid (Up.bytes (T := fun _ => False) (w := w6.drew) (show At w6.drew Av (bv news) from HAV.out) (fun _ _ h => h))
          have BED : Hid (Below w.heap.size w w6.drew) := BEND.out.drew
          clear hy6 hz6 HZ6 HM6 HAL HAV BEND x1 U
          generalize w6.drew = wd at *
          refine seq_at (some 47) (v := ?_) rfl (by kernel_rfl) (by kernel_rfl) ?_ ?_
          rotate_left
          · intro w' hw'
            go_simp
            try with_reducible rfl
          simp only [Act.put, List.setIfInBounds_toArray, List.set_cons_zero, List.set_cons_succ]
          refine seq_at (some 48) (v := ?_) rfl (by kernel_rfl) (by kernel_rfl) ?_ ?_
          rotate_left
          · intro w' hw'
            go_simp
            try with_reducible rfl
          simp only [Act.put, List.setIfInBounds_toArray, List.set_cons_zero, List.set_cons_succ]
          refine seq_at (some 49) (v := ?_) rfl (by kernel_rfl) (by kernel_rfl) ?_ ?_
          rotate_left
          · intro w' hw'
            go_simp
            try with_reducible rfl
          simp only [Act.put, List.setIfInBounds_toArray, List.set_cons_zero, List.set_cons_succ]
          refine seq_at (some 50) (v := ?_) rfl (by kernel_rfl) (by kernel_rfl) ?_ ?_
          rotate_left
          · intro w' hw'
            go_simp
            try with_reducible rfl
          simp only [Act.put, List.setIfInBounds_toArray, List.set_cons_zero, List.set_cons_succ]
          refine seq_load_dg (some 51) rfl (by kernel_rfl) (by kernel_rfl) (.tmp 5) (by kernel_rfl) (w.heap.size + 1 + 1 + 1) dc rfl HS.out UY.out ?_
          simp only [Act.put, List.setIfInBounds_toArray, List.set_cons_zero, List.set_cons_succ]
          refine seq_eff rfl (by kernel_rfl) (fun K hK => ?_)
          go_simp
          refine (HMD.out _).mono ?_
          rintro e w8 ⟨rfl, hb8⟩
          refine hK.out _ _ (.inl (Ex.below hb8)) ?_
          try simp only [Act.put, List.setIfInBounds_toArray, List.set_cons_zero, List.set_cons_succ]
          clear hK
          have UY8 := Lib.hid (UY.out.later (Ex.below hb8))
          have UZ8 := Lib.hid (UZ.out.later (Ex.below hb8))
          have UA8 := Lib.hid (UA.out.later (Ex.below hb8))
          have UV8 := Lib.hid (UV.out.later (Ex.below hb8))
          have B8 := Lib.hid (Bl.step BED.out hb8)
          clear hb8 UY UZ UA UV BED
          refine seq_at (some 53) (v := ?_) rfl (by kernel_rfl) (by kernel_rfl) ?_ ?_
          rotate_left
          · intro w' hw'
            go_simp
            try with_reducible rfl
          simp only [Act.put, List.setIfInBounds_toArray, List.set_cons_zero, List.set_cons_succ]
          refine seq_at (some 54) (v := ?_) rfl (by kernel_rfl) (by kernel_rfl) ?_ ?_
          rotate_left
          · intro w' hw'
            go_simp
            try with_reducible rfl
          simp only [Act.put, List.setIfInBounds_toArray, List.set_cons_zero, List.set_cons_succ]
          refine seq_at (some 55) (v := ?_) rfl (by kernel_rfl) (by kernel_rfl) ?_ ?_
          rotate_left
          · intro w' hw'
            go_simp
            try with_reducible rfl
          simp only [Act.put, List.setIfInBounds_toArray, List.set_cons_zero, List.set_cons_succ]
          refine seq_load_dg (some 56) rfl (by kernel_rfl) (by kernel_rfl) (.tmp 5) (by kernel_rfl) (w.heap.size + 1 + 1 + 1) dc rfl HS.out UY8.out ?_
          simp only [Act.put, List.setIfInBounds_toArray, List.set_cons_zero, List.set_cons_succ]
          refine seq_at (some 59) (v := ?_) rfl (by kernel_rfl) (by kernel_rfl) ?_ ?_
          rotate_left
          · intro w' hw'
            go_simp
            try with_reducible rfl
          simp only [Act.put, List.setIfInBounds_toArray, List.set_cons_zero, List.set_cons_succ]
          have UC : Up (fun _ => False) w8 (fun u => (convert 28 9 (.slice A l.length c)).run Tryd.prog u = .ok (.string ⟨l.toArray⟩) u) := UA8.out.map (fun u hu => convert_at u A c l hu)
          refine seq_at (some 60) (v := ?_) rfl (by kernel_rfl) (by kernel_rfl) ?_ ?_
          rotate_left
          · intro w' hw'
            obtain q0 := UC w' hw'
            go_simp
            try with_reducible rfl
          simp only [Act.put, List.setIfInBounds_toArray, List.set_cons_zero, List.set_cons_succ]
          clear UC
          refine seq_eff rfl (by kernel_rfl) (fun K hK => ?_)
          go_simp
          refine (HPUT.out _ (UV8.out _ (Ex.refl _ _))).mono ?_
          rintro e w9 ⟨g9, c9, rfl, ho9, hb9⟩
          refine hK.out _ _ (.inl (Ex.below hb9)) ?_
          try simp only [Act.put, List.setIfInBounds_toArray, List.set_cons_zero, List.set_cons_succ]
          clear hK
          have UY9 := Lib.hid (UY8.out.later (Ex.below hb9))
          have UZ9 := Lib.hid (UZ8.out.later (Ex.below hb9))
          have UV9 := Lib.hid (UV8.out.later (Ex.below hb9))
          have B9 := Lib.hid (Bl.step B8.out hb9)
          have UC : Up (fun _ => False) w9 (fun u => (convert 28 9 (.slice (some ⟨g9, 0, none⟩) PB.length c9)).run Tryd.prog u = .ok (.string ⟨PB.toArray⟩) u) := (Up.bytes (T := fun _ => False) (own_at ho9) (fun _ _ h => h)).map (fun u hu => convert_at u _ c9 PB hu)
          clear hb9 ho9 UY8 UZ8 UA8 B8 UV8
          refine seq_at (some 58) (v := ?_) rfl (by kernel_rfl) (by kernel_rfl) ?_ ?_
          rotate_left
          · intro w' hw'
            obtain q0 := UC w' hw'
            go_simp
            try with_reducible rfl
          simp only [Act.put, List.setIfInBounds_toArray, List.set_cons_zero, List.set_cons_succ]
          clear UC
          have q1 : (PB == l) = true := by simpa using HNE.out
          have q2 : decide (PB = l) = true := by simpa using HNE.out
          have q3 : (PB != l) = false := by simpa using HNE.out
          refine seq_at (some 61) (v := ?_) rfl (by kernel_rfl) (by kernel_rfl) ?_ ?_
          rotate_left
          · intro w' hw'
            go_simp
            try with_reducible rfl
          simp only [Act.put, List.setIfInBounds_toArray, List.set_cons_zero, List.set_cons_succ]
          refine seq_at (some 62) (v := ?_) rfl (by kernel_rfl) (by kernel_rfl) ?_ ?_
          rotate_left
          · intro w' hw'
            go_simp
            try with_reducible rfl
          simp only [Act.put, List.setIfInBounds_toArray, List.set_cons_zero, List.set_cons_succ]
          refine seq_nil ?_
          have HZD : Hid (w9.heap[w.heap.size]? = some (.cells #[.int .i64 0, .int .i64 0, .int .i64 0, .int .i64 0, .int .i64 0, .slice none 0 0] 53 (0, 0))) := UZ9.out _ (Ex.refl _ _)
          have HYD : Hid (w9.heap[w.heap.size + 1 + 1 + 1]? = some (.cells dc 53 (0, 0))) := UY9.out _ (Ex.refl _ _)
          have HVD : Hid (At w9 Av (bv news)) := UV9.out _ (Ex.refl _ _)
          clear UZ9 UY9 UV9
          go_wp2_with (first | (refine load_dg HS.out rfl (.tmp 5) rfl (w.heap.size + 1 + 1 + 1) rfl HYD.out ?_) | (refine store_dg HS.out rfl HDA.out rfl (.tmp 2) (.tmp 64) rfl w.heap.size rfl rfl HZD.out ?_))
          rw [HV.out]
          have hgr := setRow_grown w9 w.heap.size dc
          refine refDg_end (cs := dc) rfl rfl rfl HS.out (setRow_at HZD.out) ?_
          exact HDG.out _ (HVD.out.grown hgr (fun ad e => by have := HFR.out ad e; intro h; injection h with h; omega)) (Bl.grown B9.out hgr (fun k hk => by injection hk with hk; omega))
        · have HV : Hid (answerD l = (noD, 4)) := Lib.hid (by rw [answerD_ref hl, hpar]; simp [hyy, hne])
          clear hyy hpar
          obtain ⟨dc, hdc⟩ : ∃ dc, dc = dcells ⟨z0, z1, z2, z3, z4, news⟩ Av cv := ⟨_, rfl⟩
          rw [← hdc] at HS HDA HMD HM6 HPUT
          clear hdc
          have HNE := Lib.hid hne
          clear hne
          generalize putD ⟨z0, z1, z2, z3, z4, news⟩ = PB at *
          refine wp_region_seq (fun _ => False) [] [(0, true), (1, true), (2, true), (3, true), (4, true), (5, true), (6, true), (7, true), (8, true), (9, true), (10, false), (11, true), (12, true), (13, true), (14, true), (17, true), (18, true), (15, false), (16, true), (19, true), (20, true)] (by kernel_rfl) (by kernel_rfl) (fun _ _ d _ _ h => by cases d <;> exact h) rfl (by kernel_rfl) ?_
          have U : Up (fun _ => False) w6.drew (fun u => u.cell? ⟨w.heap.size + 1 + 1, 1, none⟩ = some (.bool false)) := Up.cell (by simpa using x1) (fun h => h)
          refine seq_at (some 42) (v := ?_) rfl (by kernel_rfl) (by kernel_rfl) ?_ ?_
          rotate_left
          · intro w' hw'
            go_simp
            try with_reducible rfl
          simp only [Act.put, List.setIfInBounds_toArray, List.set_cons_zero, List.set_cons_succ]
          refine seq_at (some 43) (v := ?_) rfl (by kernel_rfl) (by kernel_rfl) ?_ ?_
          rotate_left
          · intro w' hw'
            go_simp
            try with_reducible rfl
          simp only [Act.put, List.setIfInBounds_toArray, List.set_cons_zero, List.set_cons_succ]
          refine seq_at (some 44) (v := ?_) rfl (by kernel_rfl) (by kernel_rfl) ?_ ?_
          rotate_left
          · intro w' hw'
            go_simp
            try with_reducible rfl
          simp only [Act.put, List.setIfInBounds_toArray, List.set_cons_zero, List.set_cons_succ]
          refine seq_at (some 45) (v := ?_) rfl (by kernel_rfl) (by kernel_rfl) ?_ ?_
          rotate_left
          · intro w' hw'
            obtain q0 := U w' hw'
            go_simp
            try with_reducible rfl
          simp only [Act.put, List.setIfInBounds_toArray, List.set_cons_zero, List.set_cons_succ]
          refine seq_at (some 46) (v := ?_) rfl (by kernel_rfl) (by kernel_rfl) ?_ ?_
          rotate_left
          · intro w' hw'
            go_simp
            try with_reducible rfl
          simp only [Act.put, List.setIfInBounds_toArray, List.set_cons_zero, List.set_cons_succ]
          have hy6 : w6.drew.heap[w.heap.size + 1 + 1 + 1]? = some (.cells dc 53 (0, 0)) := HM6.out
          have UY := Lib.hid (Up.blk (T := fun _ => False) hy6 (fun h => h))
          have hz6 : w6.drew.heap[w.heap.size]? = some (.cells #[.int .i64 0, .int .i64 0, .int .i64 0, .int .i64 0, .int .i64 0, .slice none 0 0] 53 (0, 0)) := HZ6.out
          have UZ := Lib.hid (Up.blk (T := fun _ => False) hz6 (fun h => h))
          have UA := Lib.hid (Up.bytes (T := fun _ => False) (w := w6.drew) (show At w6.drew A (bv l) from HAL.out) (fun _ _ h => h))
          have UV := Lib.hid (Up.bytes (T := fun _ => False) (w := w6.drew) (show At w6.drew Av (bv news) from HAV.out) (fun _ _ h => h))
          have BED : Hid (Below w.heap.size w w6.drew) := BEND.out.drew
          clear hy6 hz6 HZ6 HM6 HAL HAV BEND x1 U
          generalize w6.drew = wd at *
          refine seq_at (some 47) (v := ?_) rfl (by kernel_rfl) (by kernel_rfl) ?_ ?_
          rotate_left
          · intro w' hw'
            go_simp
            try with_reducible rfl
          simp only [Act.put, List.setIfInBounds_toArray, List.set_cons_zero, List.set_cons_succ]
          refine seq_at (some 48) (v := ?_) rfl (by kernel_rfl) (by kernel_rfl) ?_ ?_
          rotate_left
          · intro w' hw'
            go_simp
            try with_reducible rfl
          simp only [Act.put, List.setIfInBounds_toArray, List.set_cons_zero, List.set_cons_succ]
          refine seq_at (some 49) (v := ?_) rfl (by kernel_rfl) (by kernel_rfl) ?_ ?_
          rotate_left
          · intro w' hw'
            go_simp
            try with_reducible rfl
          simp only [Act.put, List.setIfInBounds_toArray, List.set_cons_zero, List.set_cons_succ]
          refine seq_at (some 50) (v := ?_) rfl (by kernel_rfl) (by kernel_rfl) ?_ ?_
          rotate_left
          · intro w' hw'
            go_simp
            try with_reducible rfl
          simp only [Act.put, List.setIfInBounds_toArray, List.set_cons_zero, List.set_cons_succ]
          refine seq_load_dg (some 51) rfl (by kernel_rfl) (by kernel_rfl) (.tmp 5) (by kernel_rfl) (w.heap.size + 1 + 1 + 1) dc rfl HS.out UY.out ?_
          simp only [Act.put, List.setIfInBounds_toArray, List.set_cons_zero, List.set_cons_succ]
          refine seq_eff rfl (by kernel_rfl) (fun K hK => ?_)
          go_simp
          refine (HMD.out _).mono ?_
          rintro e w8 ⟨rfl, hb8⟩
          refine hK.out _ _ (.inl (Ex.below hb8)) ?_
          try simp only [Act.put, List.setIfInBounds_toArray, List.set_cons_zero, List.set_cons_succ]
          clear hK
          have UY8 := Lib.hid (UY.out.later (Ex.below hb8))
          have UZ8 := Lib.hid (UZ.out.later (Ex.below hb8))
          have UA8 := Lib.hid (UA.out.later (Ex.below hb8))
          have UV8 := Lib.hid (UV.out.later (Ex.below hb8))
          have B8 := Lib.hid (Bl.step BED.out hb8)
          clear hb8 UY UZ UA UV BED
          refine seq_at (some 53) (v := ?_) rfl (by kernel_rfl) (by kernel_rfl) ?_ ?_
          rotate_left
          · intro w' hw'
            go_simp
            try with_reducible rfl
          simp only [Act.put, List.setIfInBounds_toArray, List.set_cons_zero, List.set_cons_succ]
          refine seq_at (some 54) (v := ?_) rfl (by kernel_rfl) (by kernel_rfl) ?_ ?_
          rotate_left
          · intro w' hw'
            go_simp
            try with_reducible rfl
          simp only [Act.put, List.setIfInBounds_toArray, List.set_cons_zero, List.set_cons_succ]
          refine seq_at (some 55) (v := ?_) rfl (by kernel_rfl) (by kernel_rfl) ?_ ?_
          rotate_left
          · intro w' hw'
            go_simp
            try with_reducible rfl
          simp only [Act.put, List.setIfInBounds_toArray, List.set_cons_zero, List.set_cons_succ]
          refine seq_load_dg (some 56) rfl (by kernel_rfl) (by kernel_rfl) (.tmp 5) (by kernel_rfl) (w.heap.size + 1 + 1 + 1) dc rfl HS.out UY8.out ?_
          simp only [Act.put, List.setIfInBounds_toArray, List.set_cons_zero, List.set_cons_succ]
          refine seq_at (some 59) (v := ?_) rfl (by kernel_rfl) (by kernel_rfl) ?_ ?_
          rotate_left
          · intro w' hw'
            go_simp
            try with_reducible rfl
          simp only [Act.put, List.setIfInBounds_toArray, List.set_cons_zero, List.set_cons_succ]
          have UC : Up (fun _ => False) w8 (fun u => (convert 28 9 (.slice A l.length c)).run Tryd.prog u = .ok (.string ⟨l.toArray⟩) u) := UA8.out.map (fun u hu => convert_at u A c l hu)
          refine seq_at (some 60) (v := ?_) rfl (by kernel_rfl) (by kernel_rfl) ?_ ?_
          rotate_left
          · intro w' hw'
            obtain q0 := UC w' hw'
            go_simp
            try with_reducible rfl
          simp only [Act.put, List.setIfInBounds_toArray, List.set_cons_zero, List.set_cons_succ]
          clear UC
          refine seq_eff rfl (by kernel_rfl) (fun K hK => ?_)
          go_simp
          refine (HPUT.out _ (UV8.out _ (Ex.refl _ _))).mono ?_
          rintro e w9 ⟨g9, c9, rfl, ho9, hb9⟩
          refine hK.out _ _ (.inl (Ex.below hb9)) ?_
          try simp only [Act.put, List.setIfInBounds_toArray, List.set_cons_zero, List.set_cons_succ]
          clear hK
          have UY9 := Lib.hid (UY8.out.later (Ex.below hb9))
          have UZ9 := Lib.hid (UZ8.out.later (Ex.below hb9))
          have UV9 := Lib.hid (UV8.out.later (Ex.below hb9))
          have B9 := Lib.hid (Bl.step B8.out hb9)
          have UC : Up (fun _ => False) w9 (fun u => (convert 28 9 (.slice (some ⟨g9, 0, none⟩) PB.length c9)).run Tryd.prog u = .ok (.string ⟨PB.toArray⟩) u) := (Up.bytes (T := fun _ => False) (own_at ho9) (fun _ _ h => h)).map (fun u hu => convert_at u _ c9 PB hu)
          clear hb9 ho9 UY8 UZ8 UA8 B8 UV8
          refine seq_at (some 58) (v := ?_) rfl (by kernel_rfl) (by kernel_rfl) ?_ ?_
          rotate_left
          · intro w' hw'
            obtain q0 := UC w' hw'
            go_simp
            try with_reducible rfl
          simp only [Act.put, List.setIfInBounds_toArray, List.set_cons_zero, List.set_cons_succ]
          clear UC
          have q1 : (PB == l) = false := by simpa using HNE.out
          have q2 : decide (PB = l) = false := by simpa using HNE.out
          have q3 : (PB != l) = true := by simpa using HNE.out
          refine seq_at (some 61) (v := ?_) rfl (by kernel_rfl) (by kernel_rfl) ?_ ?_
          rotate_left
          · intro w' hw'
            go_simp
            try with_reducible rfl
          simp only [Act.put, List.setIfInBounds_toArray, List.set_cons_zero, List.set_cons_succ]
          refine seq_at (some 62) (v := ?_) rfl (by kernel_rfl) (by kernel_rfl) ?_ ?_
          rotate_left
          · intro w' hw'
            go_simp
            try with_reducible rfl
          simp only [Act.put, List.setIfInBounds_toArray, List.set_cons_zero, List.set_cons_succ]
          refine seq_nil ?_
          have HZD : Hid (w9.heap[w.heap.size]? = some (.cells #[.int .i64 0, .int .i64 0, .int .i64 0, .int .i64 0, .int .i64 0, .slice none 0 0] 53 (0, 0))) := UZ9.out _ (Ex.refl _ _)
          have BED : Hid (Below w.heap.size w w9) := B9.out
          clear UY9 UZ9 UV9 B9
          generalize w9 = wd at *
          go_wp2_with (refine store_dg (cs := zeroDg) rfl rfl zeroDg_all rfl (.tmp 2) (.tmp 63) rfl w.heap.size rfl rfl HZD.out ?_)
          rw [HV.out]
          exact refDg_end (cs := zeroDg) rfl rfl rfl rfl (setRow_at HZD.out) (dgR_no (Bl.grown BED.out (setRow_grown wd w.heap.size zeroDg) (fun k hk => by injection hk with hk; omega)))
    · have HV : Hid (answerD l = (noD, 4)) := Lib.hid (by rw [answerD_ref hl, HP6.out.elim (fun h => h.2) (fun h => absurd h.2.1 hq0)])
      have hqn : (q != 0) = true := by simpa using hq0
      clear hq0
      refine wp_region_seq (fun _ => False) [] [(0, true), (1, true), (2, true), (3, true), (4, true), (5, true), (6, true), (7, true), (8, true), (9, true), (10, false), (11, true), (12, true), (13, true), (14, true), (17, true), (18, true), (15, false), (16, true), (19, true), (20, true)] (by kernel_rfl) (by kernel_rfl) (fun _ _ d _ _ h => by cases d <;> exact h) rfl (by kernel_rfl) ?_
      have U : Up (fun _ => False) w6.drew (fun u => u.cell? ⟨w.heap.size + 1 + 1, 1, none⟩ = some (.bool false)) := Up.cell (by simpa using x1) (fun h => h)
      refine seq_at (some 42) (v := ?_) rfl (by kernel_rfl) (by kernel_rfl) ?_ ?_
      rotate_left
      · intro w' hw'
        go_simp
        try with_reducible rfl
      simp only [Act.put, List.setIfInBounds_toArray, List.set_cons_zero, List.set_cons_succ]
      refine seq_at (some 43) (v := ?_) rfl (by kernel_rfl) (by kernel_rfl) ?_ ?_
      rotate_left
      · intro w' hw'
        go_simp
        try with_reducible rfl
      simp only [Act.put, List.setIfInBounds_toArray, List.set_cons_zero, List.set_cons_succ]
      refine seq_at (some 44) (v := ?_) rfl (by kernel_rfl) (by kernel_rfl) ?_ ?_
      rotate_left
      · intro w' hw'
        go_simp
        try with_reducible rfl
      simp only [Act.put, List.setIfInBounds_toArray, List.set_cons_zero, List.set_cons_succ]
      refine seq_at (some 45) (v := ?_) rfl (by kernel_rfl) (by kernel_rfl) ?_ ?_
      rotate_left
      · intro w' hw'
        obtain q0 := U w' hw'
        go_simp
        try with_reducible rfl
      simp only [Act.put, List.setIfInBounds_toArray, List.set_cons_zero, List.set_cons_succ]
      refine seq_at (some 46) (v := ?_) rfl (by kernel_rfl) (by kernel_rfl) ?_ ?_
      rotate_left
      · intro w' hw'
        go_simp
        try with_reducible rfl
      simp only [Act.put, List.setIfInBounds_toArray, List.set_cons_zero, List.set_cons_succ]
      refine seq_at (some 47) (v := ?_) rfl (by kernel_rfl) (by kernel_rfl) ?_ ?_
      rotate_left
      · intro w' hw'
        go_simp
        try with_reducible rfl
      simp only [Act.put, List.setIfInBounds_toArray, List.set_cons_zero, List.set_cons_succ]
      refine seq_at (some 48) (v := ?_) rfl (by kernel_rfl) (by kernel_rfl) ?_ ?_
      rotate_left
      · intro w' hw'
        go_simp
        try with_reducible rfl
      simp only [Act.put, List.setIfInBounds_toArray, List.set_cons_zero, List.set_cons_succ]
      refine seq_at (some 49) (v := ?_) rfl (by kernel_rfl) (by kernel_rfl) ?_ ?_
      rotate_left
      · intro w' hw'
        go_simp
        try with_reducible rfl
      simp only [Act.put, List.setIfInBounds_toArray, List.set_cons_zero, List.set_cons_succ]
      refine seq_at (some 50) (v := ?_) rfl (by kernel_rfl) (by kernel_rfl) ?_ ?_
      rotate_left
      · intro w' hw'
        go_simp
        try with_reducible rfl
      simp only [Act.put, List.setIfInBounds_toArray, List.set_cons_zero, List.set_cons_succ]
      refine seq_skip (some 51) rfl (by kernel_rfl) (by kernel_rfl) ?_
      simp only [Act.put, List.setIfInBounds_toArray, List.set_cons_zero, List.set_cons_succ]
      refine seq_skip (some 52) rfl (by kernel_rfl) (by kernel_rfl) ?_
      simp only [Act.put, List.setIfInBounds_toArray, List.set_cons_zero, List.set_cons_succ]
      refine seq_skip (some 53) rfl (by kernel_rfl) (by kernel_rfl) ?_
      simp only [Act.put, List.setIfInBounds_toArray, List.set_cons_zero, List.set_cons_succ]
      refine seq_at (some 54) (v := ?_) rfl (by kernel_rfl) (by kernel_rfl) ?_ ?_
      rotate_left
      · intro w' hw'
        go_simp
        try with_reducible rfl
      simp only [Act.put, List.setIfInBounds_toArray, List.set_cons_zero, List.set_cons_succ]
      refine seq_at (some 55) (v := ?_) rfl (by kernel_rfl) (by kernel_rfl) ?_ ?_
      rotate_left
      · intro w' hw'
        go_simp
        try with_reducible rfl
      simp only [Act.put, List.setIfInBounds_toArray, List.set_cons_zero, List.set_cons_succ]
      refine seq_skip (some 56) rfl (by kernel_rfl) (by kernel_rfl) ?_
      simp only [Act.put, List.setIfInBounds_toArray, List.set_cons_zero, List.set_cons_succ]
      refine seq_skip (some 59) rfl (by kernel_rfl) (by kernel_rfl) ?_
      simp only [Act.put, List.setIfInBounds_toArray, List.set_cons_zero, List.set_cons_succ]
      refine seq_skip (some 60) rfl (by kernel_rfl) (by kernel_rfl) ?_
      simp only [Act.put, List.setIfInBounds_toArray, List.set_cons_zero, List.set_cons_succ]
      refine seq_skip (some 57) rfl (by kernel_rfl) (by kernel_rfl) ?_
      simp only [Act.put, List.setIfInBounds_toArray, List.set_cons_zero, List.set_cons_succ]
      refine seq_skip (some 58) rfl (by kernel_rfl) (by kernel_rfl) ?_
      simp only [Act.put, List.setIfInBounds_toArray, List.set_cons_zero, List.set_cons_succ]
      refine seq_skip (some 61) rfl (by kernel_rfl) (by kernel_rfl) ?_
      simp only [Act.put, List.setIfInBounds_toArray, List.set_cons_zero, List.set_cons_succ]
      refine seq_at (some 62) (v := ?_) rfl (by kernel_rfl) (by kernel_rfl) ?_ ?_
      rotate_left
      · intro w' hw'
        go_simp
        try with_reducible rfl
      simp only [Act.put, List.setIfInBounds_toArray, List.set_cons_zero, List.set_cons_succ]
      refine seq_nil ?_
      have HZD : Hid (w6.drew.heap[w.heap.size]? = some (.cells #[.int .i64 0, .int .i64 0, .int .i64 0, .int .i64 0, .int .i64 0, .slice none 0 0] 53 (0, 0))) := HZ6.out
      have BED : Hid (Below w.heap.size w w6.drew) := BEND.out.drew
      generalize w6.drew = wd at *
      go_wp2_with (refine store_dg (cs := zeroDg) rfl rfl zeroDg_all rfl (.tmp 2) (.tmp 63) rfl w.heap.size rfl rfl HZD.out ?_)
      rw [HV.out]
      exact refDg_end (cs := zeroDg) rfl rfl rfl rfl (setRow_at HZD.out) (dgR_no (Bl.grown BED.out (setRow_grown wd w.heap.size zeroDg) (fun k hk => by injection hk with hk; omega)))
theorem ref_readD (A : Option Addr) (c : Nat) (l : List UInt8) (w : World) (hA : At w A (bv l)) (hl : l.length ≤ 140737488355328) (hc : l.length ≤ c) (hblk : ∀ ad, A = some ad → ad.block < w.heap.size) :
    Calls Tryd.prog 25 #[.slice A l.length c] w (DgR w (answerD l)) := by
  by_cases h : 512 < l.length
  · have e : answerD l = (noD, 3) := by unfold answerD; rw [if_pos h]
    rw [e]
    exact refDg_long A c l w h hl
  · exact refDg_walk A c l w hA (by omega) hc hblk
end Go.Proofs.YtemmdlanidepbaaDoor
