/- Contracts of whole's deferred closure. Contract of whole: a message over all the bytes, or the number 4. -/
import Derived.Test.YtemmdlanidepbaaDoorReadC
import Derived.Tactics2
import Derived.Defers
import Derived.Recover
import Derived.Laws.Pointers
import Derived.Test.YtemmdlanidepbaaDoorParse
namespace Go.Proofs.YtemmdlanidepbaaDoor
open Go.RowKit
set_option linter.unusedSimpArgs false
set_option maxRecDepth 100000

theorem assert_nil (w : World) : (Instr.typeAssert .nilIface 20 115 true).run Tryd.prog w = .ok (.tuple #[.agg #[], .bool false]) w := by kernel_rfl
theorem assert_wrong (w : World) : (Instr.typeAssert (.iface 115 (.agg #[])) 20 115 true).run Tryd.prog w = .ok (.tuple #[.agg #[], .bool true]) w := by kernel_rfl
theorem zero_all : Tryd.zeroCells27.all (·.oneCell') = true := by
  have h := set_all 0
  have e : Tryd.zeroCells27.setIfInBounds 0 (.int .i64 0) = Tryd.zeroCells27 := by kernel_rfl
  rwa [e] at h
set_option maxHeartbeats 4000000 in
theorem catch_idle (px pe : Addr) (w : World) :
    CallsD Tryd.prog 70 #[.pointer (some px), .pointer (some pe)] .returning w fun e u' w' => e = .returned (.tuple #[]) ∧ u' = .returning ∧ Below w.heap.size w w' := by
  refine callsD_of_wpS Tryd.func70 rfl fun c₀ cs hu => ?_
  apply wpS_seq
  apply wpS_region
  simp [wpOpsS, go_sem, recoverD, hu, assert_nil, Tryd.ntmps70, Exit.thenS]
  apply wpS_seq
  apply wpS_region
  simp [wpOpsS, go_sem, Exit.thenS]
  refine wpS_cond (t := false) (by simp [Act.eval, Array.replicate]) ?_
  simp only [Bool.false_eq_true, if_false]
  refine wpS_of_wp (wp_skip ?_)
  have hb := (Below.refl w.heap.size w).alloc (Nat.le_refl _) (.cells #[] 115)
  cases c₀
  simp_all [bodyPostS, results, Tryd.results70]
set_option maxHeartbeats 4000000 in
theorem catch_wrong (px pe : Nat) (w : World) (cs0 : Array Value) (hx : w.heap[px]? = some (.cells cs0 27 (0, 0))) (hs : cs0.size = 103) (he : w.heap[pe]? = some (.cells #[.int .i64 0] 29 (0, 0))) (hne : px ≠ pe) :
    CallsD Tryd.prog 70 #[.pointer (some ⟨px, 0, none⟩), .pointer (some ⟨pe, 0, none⟩)] (.panicking WRONG) w fun e u' w' => e = .returned (.tuple #[]) ∧ u' = .panicking [{ v := .iface 115 (.agg #[]), recovered := true }] ∧
      w'.heap[px]? = some (.cells Tryd.zeroCells27 27 (0, 0)) ∧ w'.heap[pe]? = some (.cells #[.int .i64 4] 29 (0, 0)) ∧ (∀ k, k < w.heap.size → k ≠ px → k ≠ pe → w'.heap[k]? = w.heap[k]?) ∧ w.heap.size ≤ w'.heap.size ∧ w'.os = w.os ∧ w'.tape = w.tape ∧ w'.output = w.output := by
  refine callsD_of_wpS Tryd.func70 rfl fun c₀ cs hu => ?_
  unfold WRONG at hu
  apply wpS_seq
  apply wpS_region
  simp [wpOpsS, go_sem, recoverD, hu, assert_wrong, Tryd.ntmps70, Exit.thenS]
  apply wpS_seq
  apply wpS_region
  simp [wpOpsS, go_sem, Exit.thenS]
  refine wpS_cond (t := true) (by simp [Act.eval, Array.replicate]) ?_
  simp only [if_true]
  refine wpS_of_wp ?_
  have hbw := (Below.refl w.heap.size w).alloc (Nat.le_refl _) (.cells #[] 115)
  have hx1 : (w.alloc (.cells #[] 115)).heap[px]? = some (.cells cs0 27 (0, 0)) := (hbw.block px (Array.getElem?_eq_some_iff.1 hx).1).trans hx
  have he1 : (w.alloc (.cells #[] 115)).heap[pe]? = some (.cells #[.int .i64 0] 29 (0, 0)) := (hbw.block pe (Array.getElem?_eq_some_iff.1 he).1).trans he
  have hg1 := grown_of_below hbw none
  have hxl := (Array.getElem?_eq_some_iff.1 hx).1
  have hel := (Array.getElem?_eq_some_iff.1 he).1
  have hs1 : w.heap.size ≤ (w.alloc (.cells #[] 115)).heap.size := by simp
  have hG := Lib.hid hg1
  clear hbw hg1
  generalize w.alloc (.cells #[] 115) = w1 at *
  have ht : (#[.pointer (some ⟨px, 0, none⟩), .pointer (some ⟨pe, 0, none⟩)] ++ ((((((((Array.replicate 10 undef).setIfInBounds 4 (.iface 115 (.agg #[]))).setIfInBounds 5 (.tuple #[.agg #[], .bool true])).setIfInBounds 3 (.tuple #[.agg #[], .bool true])).setIfInBounds 6 (.agg #[])).setIfInBounds 7 (.bool true)).setIfInBounds 0 (.pointer (some ⟨w.heap.size, 0, none⟩))).setIfInBounds 1 (.bool true)).setIfInBounds 8 (.bool true) : Array Value) =
    #[.pointer (some ⟨px, 0, none⟩), .pointer (some ⟨pe, 0, none⟩), .pointer (some ⟨w.heap.size, 0, none⟩), .bool true, undef, .tuple #[.agg #[], .bool true], .iface 115 (.agg #[]), .tuple #[.agg #[], .bool true], .agg #[], .bool true, .bool true, undef] := by simp [Array.replicate]
  rw [ht]
  clear ht
  have hi : (Tryd.prog.info? 27).map (·.size) = some Tryd.zeroCells27.size := by rw [zero_size]; exact infoMsg
  have HI := Lib.hid hi
  have HS := Lib.hid (hs.trans zero_size.symm)
  have hx2 := ((Below.refl w1.heap.size w1).alloc (Nat.le_refl _) (.cells Tryd.zeroCells27 27)).block px (Nat.lt_of_lt_of_le hxl hs1) |>.trans hx1
  have hba := (Below.refl w1.heap.size w1).alloc (Nat.le_refl _) (.cells Tryd.zeroCells27 27)
  have hsr := setRow_grown (w1.alloc (.cells Tryd.zeroCells27 27)) px Tryd.zeroCells27
  have hss : w1.heap.size ≤ (w1.alloc (.cells Tryd.zeroCells27 27)).heap.size := hba.size
  have he2 : ((w1.alloc (.cells Tryd.zeroCells27 27)).setRow px Tryd.zeroCells27).heap[pe]? = some (.cells #[.int .i64 0] 29 (0, 0)) := (hsr.block pe (by omega) (fun e => hne (by injection e with e; exact e.symm))).trans ((hba.block pe (by omega)).trans he1)
  have c0 : ((w1.alloc (.cells Tryd.zeroCells27 27)).setRow px Tryd.zeroCells27).cell? ⟨pe, 0, none⟩ = some (.int .i64 0) := by rw [cell_of_row _ pe 0 _ _ (0, 0) he2]; rfl
  have f0 : ((w1.alloc (.cells Tryd.zeroCells27 27)).setRow px Tryd.zeroCells27).frozen? ⟨pe, 0, none⟩ = false := by simp [World.frozen?, he2]
  clear hi
  go_wp2_with (first | (refine wpList_load_row rfl 27 (.tmp 4) rfl w1.heap.size rfl 27 Tryd.zeroCells27 (0, 0) _ (heap_alloc_new w1 _) Tryd.underlying27 rfl HI.out ?_) | (refine wpList_store_row rfl 27 (.tmp 0) (.tmp 11) rfl px Tryd.zeroCells27 rfl rfl 27 cs0 hx2 HI.out HS.out zero_all ?_))
  have hc5 : (((w1.alloc (.cells Tryd.zeroCells27 27)).setRow px Tryd.zeroCells27).setCell ⟨pe, 0, none⟩ (.int .i64 4)).heap[pe]? = some (.cells #[.int .i64 4] 29 (0, 0)) := by simp [World.setCell, Array.getElem?_modify, he2]
  have hk5 : ∀ k, k ≠ pe → (((w1.alloc (.cells Tryd.zeroCells27 27)).setRow px Tryd.zeroCells27).setCell ⟨pe, 0, none⟩ (.int .i64 4)).heap[k]? = ((w1.alloc (.cells Tryd.zeroCells27 27)).setRow px Tryd.zeroCells27).heap[k]? := by
    intro k hk
    have : pe ≠ k := fun e => hk e.symm
    simp [World.setCell, Array.getElem?_modify, this]
  have hx5 := (hk5 px hne).trans (setRow_at (cs := Tryd.zeroCells27) hx2)
  have hs5 : (((w1.alloc (.cells Tryd.zeroCells27 27)).setRow px Tryd.zeroCells27).setCell ⟨pe, 0, none⟩ (.int .i64 4)).heap.size = ((w1.alloc (.cells Tryd.zeroCells27 27)).setRow px Tryd.zeroCells27).heap.size := by simp [World.setCell]
  have ho5 : (((w1.alloc (.cells Tryd.zeroCells27 27)).setRow px Tryd.zeroCells27).setCell ⟨pe, 0, none⟩ (.int .i64 4)).os = w.os ∧ (((w1.alloc (.cells Tryd.zeroCells27 27)).setRow px Tryd.zeroCells27).setCell ⟨pe, 0, none⟩ (.int .i64 4)).tape = w.tape ∧
    (((w1.alloc (.cells Tryd.zeroCells27 27)).setRow px Tryd.zeroCells27).setCell ⟨pe, 0, none⟩ (.int .i64 4)).output = w.output := ⟨(hsr.os.trans hba.os).trans hG.out.os, (hsr.tape.trans hba.tape).trans hG.out.tape, (hsr.output.trans hba.output).trans hG.out.output⟩
  have hkk : ∀ k, k < w.heap.size → k ≠ px → k ≠ pe → (((w1.alloc (.cells Tryd.zeroCells27 27)).setRow px Tryd.zeroCells27).setCell ⟨pe, 0, none⟩ (.int .i64 4)).heap[k]? = w.heap[k]? := by
    intro k hk h1 h2
    rw [hk5 k h2, hsr.block k (by omega) (fun e => h1 (by injection e)), hba.block k (by omega), hG.out.block k hk (by simp)]
  have hsz := hs5 ▸ Nat.le_trans hs1 (Nat.le_trans hss hsr.size)
  clear hk5 hs5 hsr hba he2 c0 f0 hss
  generalize ((w1.alloc (.cells Tryd.zeroCells27 27)).setRow px Tryd.zeroCells27).setCell ⟨pe, 0, none⟩ (.int .i64 4) = w5 at *
  simp only [bodyPostS, results, Tryd.results70]
  exact ⟨trivial, _, rfl, .tuple #[], by simp, rfl, rfl, hx5, hc5, hkk, hsz, ho5⟩
end Go.Proofs.YtemmdlanidepbaaDoor
namespace Go.Proofs.YtemmdlanidepbaaDoor
open Go.RowKit
set_option linter.unusedSimpArgs false
set_option maxRecDepth 100000

/-- what whole answers -/
noncomputable def wholeV (l : List UInt8) : Array Value × Int := match parse l with
  | some (m, p) => if p < l.length then (Tryd.zeroCells27, 4) else (mcells m, 0)
  | none => (Tryd.zeroCells27, 4)
theorem results_cells {fn : Func} {p q : Tmp} {ty ty2 : TypeId} (h : fn.results = #[.cell p ty, .cell q ty2]) (tmps : Array Value) {P : Program} {w : World} {ap aq : Addr} {v1 v2 : Value} (hp : tmps.getD p undef = .pointer (some ap)) (hq : tmps.getD q undef = .pointer (some aq))
    (l1 : (loadVar ty ap).run P w = .ok v1 w) (l2 : (loadVar ty2 aq).run P w = .ok v2 w) : (results fn tmps).run P w = .ok (.tuple #[v1, v2]) w := by
  have hp' : tmps[p]?.getD undef = .pointer (some ap) := by simpa using hp
  have hq' : tmps[q]?.getD undef = .pointer (some aq) := by simpa using hq
  simp [results, h, hp', hq', asAddr, l1, l2]
theorem whole_results (tmps : Array Value) (w : World) (px pe : Nat) (cs : Array Value) (z : Int) (hp : tmps.getD 4 undef = .pointer (some ⟨px, 0, none⟩)) (hq : tmps.getD 5 undef = .pointer (some ⟨pe, 0, none⟩)) (hs : cs.size = 103)
    (hx : w.heap[px]? = some (.cells cs 27 (0, 0))) (he : w.heap[pe]? = some (.cells #[.int .i64 z] 29 (0, 0))) : (results Tryd.f44 tmps).run Tryd.prog w = .ok (.tuple #[.agg cs, .int .i64 z]) w := by
  refine results_cells rfl tmps hp hq (run_loadVar_row w px _ _ cs (0, 0) _ hx Tryd.underlying27 rfl (by rw [hs]; exact infoMsg)) ?_
  have c0 : w.cell? ⟨pe, 0, none⟩ = some (.int .i64 z) := by rw [cell_of_row _ pe 0 _ _ (0, 0) he]; rfl
  simp [go_sem, c0]
def WholeR (w : World) (v : Array Value × Int) (e : Ending) (w' : World) : Prop := e = .returned (.tuple #[.agg v.1, .int .i64 v.2]) ∧ Below w.heap.size w w'
theorem whole_bad (w w1 : World) (tmps cs0 : Array Value) (hp : tmps.getD 4 undef = .pointer (some ⟨w.heap.size, 0, none⟩)) (hq : tmps.getD 5 undef = .pointer (some ⟨w.heap.size + 1, 0, none⟩))
    (hx : w1.heap[w.heap.size]? = some (.cells cs0 27 (0, 0))) (hs : cs0.size = 103) (he : w1.heap[w.heap.size + 1]? = some (.cells #[.int .i64 0] 29 (0, 0))) (hb : Below w.heap.size w w1) :
    Leaves Tryd.prog Tryd.f44 tmps (WholeR w (Tryd.zeroCells27, 4)) [{ target := .fn (.func 70) #[.pointer (some ⟨w.heap.size, 0, none⟩), .pointer (some ⟨w.heap.size + 1, 0, none⟩)], args := #[] }] (.panicking WRONG) w1 := by
  refine leaves_cons (f := 70) (args := #[.pointer (some ⟨w.heap.size, 0, none⟩), .pointer (some ⟨w.heap.size + 1, 0, none⟩)]) (by simp) (by simp [go_sem]) ?_
  refine (catch_wrong w.heap.size (w.heap.size + 1) w1 cs0 hx hs he (by omega)).mono ?_
  rintro e u' w2 ⟨rfl, rfl, hx2, he2, hk, hsz, ho, ht, hu⟩
  exact ⟨_, whole_results tmps w2 _ _ _ _ hp hq zero_size hx2 he2, rfl, ⟨ho.trans hb.os, ht.trans hb.tape, hu.trans hb.output, Nat.le_trans hb.size hsz, fun k h1 => by rw [hk k (Nat.lt_of_lt_of_le h1 hb.size) (by omega) (by omega), hb.block k h1]⟩⟩
theorem whole_good (w w1 : World) (tmps cs0 : Array Value) (z : Int) (hp : tmps.getD 4 undef = .pointer (some ⟨w.heap.size, 0, none⟩)) (hq : tmps.getD 5 undef = .pointer (some ⟨w.heap.size + 1, 0, none⟩))
    (hx : w1.heap[w.heap.size]? = some (.cells cs0 27 (0, 0))) (hs : cs0.size = 103) (he : w1.heap[w.heap.size + 1]? = some (.cells #[.int .i64 z] 29 (0, 0))) (hb : Below w.heap.size w w1) :
    Leaves Tryd.prog Tryd.f44 tmps (WholeR w (cs0, z)) [{ target := .fn (.func 70) #[.pointer (some ⟨w.heap.size, 0, none⟩), .pointer (some ⟨w.heap.size + 1, 0, none⟩)], args := #[] }] .returning w1 := by
  refine leaves_cons (f := 70) (args := #[.pointer (some ⟨w.heap.size, 0, none⟩), .pointer (some ⟨w.heap.size + 1, 0, none⟩)]) (by simp) (by simp [go_sem]) ?_
  refine (catch_idle ⟨w.heap.size, 0, none⟩ ⟨w.heap.size + 1, 0, none⟩ w1).mono ?_
  rintro e u' w2 ⟨rfl, rfl, hb2⟩
  have h2 := (Array.getElem?_eq_some_iff.1 he).1
  exact ⟨_, whole_results tmps w2 _ _ _ _ hp hq hs ((hb2.block _ (by omega)).trans hx) ((hb2.block _ h2).trans he), rfl, hb.trans (hb2.mono hb.size)⟩

set_option maxHeartbeats 8000000 in
theorem whole_any (A : Option Addr) (c : Nat) (l : List UInt8) (w : World) (hA : At w A (bv l)) (hl : l.length ≤ 512) :
    Calls Tryd.prog 44 #[.slice A l.length c, .func (.func 45) #[] #[]] w (WholeR w (wholeV l)) := by
  have hmf : ∀ (fn : Fn) (first cap : Array Value) (w : World), (Instr.makeFunc fn first cap).run Tryd.prog w = .ok (.func fn first cap) w := fun _ _ _ _ => rfl
  go_enter_defers Tryd.func44, Tryd.ntmps44
  go_wp2_with fail
  have hb0 := (((Below.refl w.heap.size w).alloc (Nat.le_refl _) (.cells Tryd.zeroCells27 27)).alloc (by simp) (.cells #[.int .i64 0] 29))
  have hx0 := heap_alloc2_old w (.cells Tryd.zeroCells27 27) (.cells #[.int .i64 0] 29)
  have he0 := heap_alloc2_new w (.cells Tryd.zeroCells27 27) (.cells #[.int .i64 0] 29)
  have hA0 := hA.mono hb0
  generalize ((w.alloc (.cells Tryd.zeroCells27 27)).alloc (.cells #[.int .i64 0] 29)) = w0 at *
  have hs0 := (Array.getElem?_eq_some_iff.1 he0).1
  refine (open_any A c l w0 hA0 (by omega)).mono ?_
  rintro e w1 ⟨g, ad, c', rfl, hr, hg, had, hb⟩
  have hb1 := hb0.trans (hb.mono hb0.size)
  have hs1 := hb.size
  have hx1 := (hb.block _ (by omega)).trans hx0
  have he1 := (hb.block _ hs0).trans he0
  go_wp2_with fail
  refine (readC_any w1 g ad c' l hr hl).mono ?_
  intro e w2 hR
  unfold ReadC at hR
  cases hp : parse l with
  | none =>
    rw [hp] at hR
    obtain ⟨rfl, p, hr2, hg2⟩ := hR
    have hv : wholeV l = (Tryd.zeroCells27, 4) := by unfold wholeV; rw [hp]
    rw [hv]
    exact whole_bad w w2 _ _ rfl rfl ((hg2.block _ (by omega) (fun e => by injection e with e; omega)).trans hx1) zero_size ((hg2.block _ (by omega) (fun e => by injection e with e; omega)).trans he1) (Bl.grown hb1 hg2 (fun k hk => by injection hk with hk; omega))
  | some r =>
    obtain ⟨m, p⟩ := r
    rw [hp] at hR
    obtain ⟨rfl, hr2, hg2⟩ := hR
    have hb2 := Bl.grown hb1 hg2 (fun k hk => by injection hk with hk; omega)
    have hx2 := (hg2.block w.heap.size (by have := hb.size; omega) (fun e => by injection e with e; omega)).trans hx1
    have he2 := (hg2.block (w.heap.size + 1) (by have := hb.size; omega) (fun e => by injection e with e; omega)).trans he1
    have hms : (mcells m).size = 103 := mcells_size (parse_ok hp)
    have HMS := Lib.hid hms
    have HZ := Lib.hid (zero_size.trans hms.symm)
    clear hg2 hx1 he1 hx0 he0 hms
    go_wp2_with (refine wpList_store_row rfl 27 (.tmp 4) (.tmp 12) rfl w.heap.size (mcells m) rfl rfl 27 Tryd.zeroCells27 hx2 (infoMsg.trans (congrArg some HMS.out.symm)) HZ.out (mcells_all m) ?_)
    have hrow := setRow_at (cs := mcells m) hx2
    have hgr := setRow_grown w2 w.heap.size (mcells m)
    have hr3 : Rdr (w2.setRow w.heap.size (mcells m)) g ad c' l p := hr2.move hgr (fun e => by injection e with e; omega) (fun e => by injection e with e; omega)
    have he3 := (hgr.block (w.heap.size + 1) (Array.getElem?_eq_some_iff.1 he2).1 (fun e => by injection e with e; omega)).trans he2
    have hb3 := Bl.grown hb2 hgr (fun k hk => by injection hk with hk; omega)
    clear hgr hx2 he2
    generalize w2.setRow w.heap.size (mcells m) = w3 at *
    refine (end_yes w3 g ad c' l p hr3).mono ?_
    rintro e w4 ⟨rfl, n, rfl⟩
    have hb4 := Bl.drewN hb3 n
    have hx4 : (w3.drewN n).heap[w.heap.size]? = some (.cells (mcells m) 27 (0, 0)) := hrow
    have he4 : (w3.drewN n).heap[w.heap.size + 1]? = some (.cells #[.int .i64 0] 29 (0, 0)) := he3
    clear hrow he3 hb3 hr3
    generalize w3.drewN n = w4 at *
    by_cases hlt : p < l.length
    · have hv : wholeV l = (Tryd.zeroCells27, 4) := by unfold wholeV; rw [hp]; simp [hlt]
      have hen : endE l p = 4 := by unfold endE; rw [if_pos hlt]
      rw [hen]
      go_wp2_with fail
      refine (must_int_bad _ 4 (by decide) w4).mono ?_
      rintro e w5 ⟨rfl, rfl⟩
      try rw [hv]
      exact whole_bad w w4 _ _ rfl rfl hx4 HMS.out he4 hb4
    · have hv : wholeV l = (mcells m, 0) := by unfold wholeV; rw [hp]; simp [hlt]
      have hen : endE l p = 0 := by unfold endE; rw [if_neg hlt]
      rw [hen]
      go_wp2_with fail
      refine (must_int _ w4).mono ?_
      rintro e w5 ⟨rfl, rfl⟩
      have hgr := setRow_grown w4 w.heap.size (mcells m)
      have he5 := (hgr.block (w.heap.size + 1) (Array.getElem?_eq_some_iff.1 he4).1 (fun e => by injection e with e; omega)).trans he4
      have hb5 := Bl.grown hb4 hgr (fun k hk => by injection hk with hk; omega)
      have hx5 := setRow_at (cs := mcells m) hx4
      have HX4 := Lib.hid hx4
      have c0 : (w4.setRow w.heap.size (mcells m)).cell? ⟨w.heap.size + 1, 0, none⟩ = some (.int .i64 0) := by rw [cell_of_row _ _ 0 _ _ (0, 0) he5]; rfl
      have f0 : (w4.setRow w.heap.size (mcells m)).frozen? ⟨w.heap.size + 1, 0, none⟩ = false := by simp [World.frozen?, he5]
      have HE5 := Lib.hid he5
      have HX5 := Lib.hid hx5
      clear he4 he5 hx4 hx5 hgr
      go_wp2_with (first | (refine wpList_load_row rfl 27 (.tmp 4) rfl w.heap.size rfl 27 (mcells m) (0, 0) _ HX4.out Tryd.underlying27 rfl (infoMsg.trans (congrArg some HMS.out.symm)) ?_) | (refine wpList_store_row rfl 27 (.tmp 4) (.tmp 16) rfl w.heap.size (mcells m) rfl rfl 27 (mcells m) HX4.out (infoMsg.trans (congrArg some HMS.out.symm)) rfl (mcells_all m) ?_))
      try rw [hv]
      have hb6 := Bl.grown hb5 (grown_set (w4.setRow w.heap.size (mcells m)) (w.heap.size + 1) 0 (.int .i64 0)) (fun k hk => by injection hk with hk; omega)
      have hx6 := ((grown_set (w4.setRow w.heap.size (mcells m)) (w.heap.size + 1) 0 (.int .i64 0)).block w.heap.size (Array.getElem?_eq_some_iff.1 HX5.out).1 (fun e => by injection e with e; omega)).trans HX5.out
      have he6 : ((w4.setRow w.heap.size (mcells m)).setCell ⟨w.heap.size + 1, 0, none⟩ (.int .i64 0)).heap[w.heap.size + 1]? = some (.cells #[.int .i64 0] 29 (0, 0)) := by simp [World.setCell, Array.getElem?_modify, HE5.out]
      exact whole_good w _ _ _ 0 rfl rfl hx6 HMS.out he6 hb6
end Go.Proofs.YtemmdlanidepbaaDoor
