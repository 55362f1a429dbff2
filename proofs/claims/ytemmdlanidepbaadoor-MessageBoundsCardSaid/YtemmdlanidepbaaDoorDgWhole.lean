/- Contract of whole over a datagram. -/
import Derived.Test.YtemmdlanidepbaaDoorDgRead
import Derived.Test.YtemmdlanidepbaaDoorWhole
namespace Go.Proofs.YtemmdlanidepbaaDoor
open Go.RowKit
set_option linter.unusedSimpArgs false
set_option maxRecDepth 100000

theorem zeroDg_size : zeroDg.size = 6 := rfl
theorem zeroDg_all : zeroDg.all (·.oneCell') = true := by kernel_rfl
theorem dcells_all (d : Dg) (A : Option Addr) (c : Nat) : (dcells d A c).all (·.oneCell') = true := by
  unfold dcells
  kernel_rfl
set_option maxHeartbeats 4000000 in
theorem catchD_idle (px pe : Addr) (w : World) :
    CallsD Tryd.prog 82 #[.pointer (some px), .pointer (some pe)] .returning w fun e u' w' => e = .returned (.tuple #[]) ∧ u' = .returning ∧ Below w.heap.size w w' := by
  refine callsD_of_wpS Tryd.func82 rfl fun c₀ cs hu => ?_
  apply wpS_seq
  apply wpS_region
  simp [wpOpsS, go_sem, recoverD, hu, assert_nil, Tryd.ntmps82, Exit.thenS]
  apply wpS_seq
  apply wpS_region
  simp [wpOpsS, go_sem, Exit.thenS]
  refine wpS_cond (t := false) (by simp [Act.eval, Array.replicate]) ?_
  simp only [Bool.false_eq_true, if_false]
  refine wpS_of_wp (wp_skip ?_)
  have hb := (Below.refl w.heap.size w).alloc (Nat.le_refl _) (.cells #[] 115)
  cases c₀
  simp_all [bodyPostS, results, Tryd.results82]
set_option maxHeartbeats 4000000 in
theorem catchD_wrong (px pe : Nat) (w : World) (cs0 : Array Value) (hx : w.heap[px]? = some (.cells cs0 53 (0, 0))) (hs : cs0.size = 6) (he : w.heap[pe]? = some (.cells #[.int .i64 0] 29 (0, 0))) (hne : px ≠ pe) :
    CallsD Tryd.prog 82 #[.pointer (some ⟨px, 0, none⟩), .pointer (some ⟨pe, 0, none⟩)] (.panicking WRONG) w fun e u' w' => e = .returned (.tuple #[]) ∧ u' = .panicking [{ v := .iface 115 (.agg #[]), recovered := true }] ∧
      w'.heap[px]? = some (.cells (#[.int .i64 0, .int .i64 0, .int .i64 0, .int .i64 0, .int .i64 0, .slice none 0 0] : Array Value) 53 (0, 0)) ∧ w'.heap[pe]? = some (.cells #[.int .i64 4] 29 (0, 0)) ∧ (∀ k, k < w.heap.size → k ≠ px → k ≠ pe → w'.heap[k]? = w.heap[k]?) ∧ w.heap.size ≤ w'.heap.size ∧ w'.os = w.os ∧ w'.tape = w.tape ∧ w'.output = w.output := by
  refine callsD_of_wpS Tryd.func82 rfl fun c₀ cs hu => ?_
  unfold WRONG at hu
  apply wpS_seq
  apply wpS_region
  simp [wpOpsS, go_sem, recoverD, hu, assert_wrong, Tryd.ntmps82, Exit.thenS]
  apply wpS_seq
  apply wpS_region
  simp [wpOpsS, go_sem, Exit.thenS]
  refine wpS_cond (t := true) (by simp [Act.eval, Array.replicate]) ?_
  simp only [if_true]
  refine wpS_of_wp ?_
  have hbw := (Below.refl w.heap.size w).alloc (Nat.le_refl _) (.cells #[] 115)
  have hx1 : (w.alloc (.cells #[] 115)).heap[px]? = some (.cells cs0 53 (0, 0)) := (hbw.block px (Array.getElem?_eq_some_iff.1 hx).1).trans hx
  have he1 : (w.alloc (.cells #[] 115)).heap[pe]? = some (.cells #[.int .i64 0] 29 (0, 0)) := (hbw.block pe (Array.getElem?_eq_some_iff.1 he).1).trans he
  have hg1 := grown_of_below hbw none
  have hxl := (Array.getElem?_eq_some_iff.1 hx).1
  have hel := (Array.getElem?_eq_some_iff.1 he).1
  have hs1 : w.heap.size ≤ (w.alloc (.cells #[] 115)).heap.size := by simp
  have hG := Lib.hid hg1
  clear hbw hg1
  generalize w.alloc (.cells #[] 115) = w1 at *
  have ht : (#[.pointer (some ⟨px, 0, none⟩), .pointer (some ⟨pe, 0, none⟩)] ++ ((((((((Array.replicate 10 undef).setIfInBounds 4 (.iface 115 (.agg #[]))).setIfInBounds 5 (.tuple #[.agg #[], .bool true])).setIfInBounds 3 (.tuple #[.agg #[], .bool true])).setIfInBounds 6 (.agg #[])).setIfInBounds 7 (.bool true)).setIfInBounds 0 (.pointer (some ⟨w.heap.size, 0, none⟩))).setIfInBounds 1 (.bool true)).setIfInBounds 8 (.bool true) : Array Value) =
    #[.pointer (some ⟨px, 0, none⟩), .pointer (some ⟨pe, 0, none⟩), .pointer (some ⟨w.heap.size, 0, none⟩), .bool true, undef, .tuple #[.agg #[], .bool true], .iface 115 (.agg #[]), .tuple #[.agg #[], .bool true], .agg #[], .bool true, .bool true, undef] := by simp [Array.replicate]
  rw [ht]
  clear ht
  have hi : (Tryd.prog.info? 53).map (·.size) = some (#[.int .i64 0, .int .i64 0, .int .i64 0, .int .i64 0, .int .i64 0, .slice none 0 0] : Array Value).size := infoDg
  have HI := Lib.hid hi
  have HS := Lib.hid (hs.trans zeroDg_size.symm)
  have hx2 := ((Below.refl w1.heap.size w1).alloc (Nat.le_refl _) (.cells (#[.int .i64 0, .int .i64 0, .int .i64 0, .int .i64 0, .int .i64 0, .slice none 0 0] : Array Value) 53)).block px (Nat.lt_of_lt_of_le hxl hs1) |>.trans hx1
  have hba := (Below.refl w1.heap.size w1).alloc (Nat.le_refl _) (.cells (#[.int .i64 0, .int .i64 0, .int .i64 0, .int .i64 0, .int .i64 0, .slice none 0 0] : Array Value) 53)
  have hsr := setRow_grown (w1.alloc (.cells (#[.int .i64 0, .int .i64 0, .int .i64 0, .int .i64 0, .int .i64 0, .slice none 0 0] : Array Value) 53)) px (#[.int .i64 0, .int .i64 0, .int .i64 0, .int .i64 0, .int .i64 0, .slice none 0 0] : Array Value)
  have hss : w1.heap.size ≤ (w1.alloc (.cells (#[.int .i64 0, .int .i64 0, .int .i64 0, .int .i64 0, .int .i64 0, .slice none 0 0] : Array Value) 53)).heap.size := hba.size
  have he2 : ((w1.alloc (.cells (#[.int .i64 0, .int .i64 0, .int .i64 0, .int .i64 0, .int .i64 0, .slice none 0 0] : Array Value) 53)).setRow px (#[.int .i64 0, .int .i64 0, .int .i64 0, .int .i64 0, .int .i64 0, .slice none 0 0] : Array Value)).heap[pe]? = some (.cells #[.int .i64 0] 29 (0, 0)) := (hsr.block pe (by omega) (fun e => hne (by injection e with e; exact e.symm))).trans ((hba.block pe (by omega)).trans he1)
  have c0 : ((w1.alloc (.cells (#[.int .i64 0, .int .i64 0, .int .i64 0, .int .i64 0, .int .i64 0, .slice none 0 0] : Array Value) 53)).setRow px (#[.int .i64 0, .int .i64 0, .int .i64 0, .int .i64 0, .int .i64 0, .slice none 0 0] : Array Value)).cell? ⟨pe, 0, none⟩ = some (.int .i64 0) := by rw [cell_of_row _ pe 0 _ _ (0, 0) he2]; rfl
  have f0 : ((w1.alloc (.cells (#[.int .i64 0, .int .i64 0, .int .i64 0, .int .i64 0, .int .i64 0, .slice none 0 0] : Array Value) 53)).setRow px (#[.int .i64 0, .int .i64 0, .int .i64 0, .int .i64 0, .int .i64 0, .slice none 0 0] : Array Value)).frozen? ⟨pe, 0, none⟩ = false := by simp [World.frozen?, he2]
  clear hi
  go_wp2_with (first | (refine wpList_load_row rfl 53 (.tmp 4) rfl w1.heap.size rfl 53 (#[.int .i64 0, .int .i64 0, .int .i64 0, .int .i64 0, .int .i64 0, .slice none 0 0] : Array Value) (0, 0) _ (heap_alloc_new w1 _) Tryd.underlying53 rfl HI.out ?_) | (refine wpList_store_row rfl 53 (.tmp 0) (.tmp 11) rfl px (#[.int .i64 0, .int .i64 0, .int .i64 0, .int .i64 0, .int .i64 0, .slice none 0 0] : Array Value) rfl rfl 53 cs0 hx2 HI.out HS.out zeroDg_all ?_))
  have hc5 : (((w1.alloc (.cells (#[.int .i64 0, .int .i64 0, .int .i64 0, .int .i64 0, .int .i64 0, .slice none 0 0] : Array Value) 53)).setRow px (#[.int .i64 0, .int .i64 0, .int .i64 0, .int .i64 0, .int .i64 0, .slice none 0 0] : Array Value)).setCell ⟨pe, 0, none⟩ (.int .i64 4)).heap[pe]? = some (.cells #[.int .i64 4] 29 (0, 0)) := by simp [World.setCell, Array.getElem?_modify, he2]
  have hk5 : ∀ k, k ≠ pe → (((w1.alloc (.cells (#[.int .i64 0, .int .i64 0, .int .i64 0, .int .i64 0, .int .i64 0, .slice none 0 0] : Array Value) 53)).setRow px (#[.int .i64 0, .int .i64 0, .int .i64 0, .int .i64 0, .int .i64 0, .slice none 0 0] : Array Value)).setCell ⟨pe, 0, none⟩ (.int .i64 4)).heap[k]? = ((w1.alloc (.cells (#[.int .i64 0, .int .i64 0, .int .i64 0, .int .i64 0, .int .i64 0, .slice none 0 0] : Array Value) 53)).setRow px (#[.int .i64 0, .int .i64 0, .int .i64 0, .int .i64 0, .int .i64 0, .slice none 0 0] : Array Value)).heap[k]? := by
    intro k hk
    have : pe ≠ k := fun e => hk e.symm
    simp [World.setCell, Array.getElem?_modify, this]
  have hx5 := (hk5 px hne).trans (setRow_at (cs := (#[.int .i64 0, .int .i64 0, .int .i64 0, .int .i64 0, .int .i64 0, .slice none 0 0] : Array Value)) hx2)
  have hs5 : (((w1.alloc (.cells (#[.int .i64 0, .int .i64 0, .int .i64 0, .int .i64 0, .int .i64 0, .slice none 0 0] : Array Value) 53)).setRow px (#[.int .i64 0, .int .i64 0, .int .i64 0, .int .i64 0, .int .i64 0, .slice none 0 0] : Array Value)).setCell ⟨pe, 0, none⟩ (.int .i64 4)).heap.size = ((w1.alloc (.cells (#[.int .i64 0, .int .i64 0, .int .i64 0, .int .i64 0, .int .i64 0, .slice none 0 0] : Array Value) 53)).setRow px (#[.int .i64 0, .int .i64 0, .int .i64 0, .int .i64 0, .int .i64 0, .slice none 0 0] : Array Value)).heap.size := by simp [World.setCell]
  have ho5 : (((w1.alloc (.cells (#[.int .i64 0, .int .i64 0, .int .i64 0, .int .i64 0, .int .i64 0, .slice none 0 0] : Array Value) 53)).setRow px (#[.int .i64 0, .int .i64 0, .int .i64 0, .int .i64 0, .int .i64 0, .slice none 0 0] : Array Value)).setCell ⟨pe, 0, none⟩ (.int .i64 4)).os = w.os ∧ (((w1.alloc (.cells (#[.int .i64 0, .int .i64 0, .int .i64 0, .int .i64 0, .int .i64 0, .slice none 0 0] : Array Value) 53)).setRow px (#[.int .i64 0, .int .i64 0, .int .i64 0, .int .i64 0, .int .i64 0, .slice none 0 0] : Array Value)).setCell ⟨pe, 0, none⟩ (.int .i64 4)).tape = w.tape ∧
    (((w1.alloc (.cells (#[.int .i64 0, .int .i64 0, .int .i64 0, .int .i64 0, .int .i64 0, .slice none 0 0] : Array Value) 53)).setRow px (#[.int .i64 0, .int .i64 0, .int .i64 0, .int .i64 0, .int .i64 0, .slice none 0 0] : Array Value)).setCell ⟨pe, 0, none⟩ (.int .i64 4)).output = w.output := ⟨(hsr.os.trans hba.os).trans hG.out.os, (hsr.tape.trans hba.tape).trans hG.out.tape, (hsr.output.trans hba.output).trans hG.out.output⟩
  have hkk : ∀ k, k < w.heap.size → k ≠ px → k ≠ pe → (((w1.alloc (.cells (#[.int .i64 0, .int .i64 0, .int .i64 0, .int .i64 0, .int .i64 0, .slice none 0 0] : Array Value) 53)).setRow px (#[.int .i64 0, .int .i64 0, .int .i64 0, .int .i64 0, .int .i64 0, .slice none 0 0] : Array Value)).setCell ⟨pe, 0, none⟩ (.int .i64 4)).heap[k]? = w.heap[k]? := by
    intro k hk h1 h2
    rw [hk5 k h2, hsr.block k (by omega) (fun e => h1 (by injection e)), hba.block k (by omega), hG.out.block k hk (by simp)]
  have hsz := hs5 ▸ Nat.le_trans hs1 (Nat.le_trans hss hsr.size)
  clear hk5 hs5 hsr hba he2 c0 f0 hss
  generalize ((w1.alloc (.cells (#[.int .i64 0, .int .i64 0, .int .i64 0, .int .i64 0, .int .i64 0, .slice none 0 0] : Array Value) 53)).setRow px (#[.int .i64 0, .int .i64 0, .int .i64 0, .int .i64 0, .int .i64 0, .slice none 0 0] : Array Value)).setCell ⟨pe, 0, none⟩ (.int .i64 4) = w5 at *
  simp only [bodyPostS, results, Tryd.results82]
  exact ⟨trivial, _, rfl, .tuple #[], by simp, rfl, rfl, hx5, hc5, hkk, hsz, ho5⟩

theorem wholeD_results (tmps : Array Value) (w : World) (px pe : Nat) (cs : Array Value) (z : Int) (hp : tmps.getD 4 undef = .pointer (some ⟨px, 0, none⟩)) (hq : tmps.getD 5 undef = .pointer (some ⟨pe, 0, none⟩)) (hs : cs.size = 6)
    (hx : w.heap[px]? = some (.cells cs 53 (0, 0))) (he : w.heap[pe]? = some (.cells #[.int .i64 z] 29 (0, 0))) : (results Tryd.f65 tmps).run Tryd.prog w = .ok (.tuple #[.agg cs, .int .i64 z]) w := by
  refine results_cells rfl tmps hp hq (run_loadVar_row w px _ _ cs (0, 0) _ hx Tryd.underlying53 rfl (by rw [hs]; exact infoDg)) ?_
  have c0 : w.cell? ⟨pe, 0, none⟩ = some (.int .i64 z) := by rw [cell_of_row _ pe 0 _ _ (0, 0) he]; rfl
  simp [go_sem, c0]
/-- what whole answers: a datagram with a new body, or the number 4 -/
def WholeD (w : World) (l : List UInt8) (e : Ending) (w' : World) : Prop := match parseD l with
  | some (d, p) => if p < l.length then WholeR w (zeroDg, 4) e w' else ∃ b c', WholeR w (dcells d (some ⟨b, 0, none⟩) c', 0) e w' ∧ w'.ownsRow w.heap.size 5 1 (.slice (some ⟨b, 0, none⟩) d.body.length c') d.body.length (bv d.body)
  | none => WholeR w (zeroDg, 4) e w'
theorem WholeD_bad {w : World} {l : List UInt8} (h : parseD l = none ∨ ∃ d p, parseD l = some (d, p) ∧ p < l.length) {e : Ending} {w' : World} (hw : WholeR w (zeroDg, 4) e w') : WholeD w l e w' := by
  unfold WholeD
  rcases h with h | ⟨d, p, h, hlt⟩
  · rw [h]; exact hw
  · rw [h]; simp only; rw [if_pos hlt]; exact hw
theorem wholeD_badR (w w1 : World) (R : Ending → World → Prop) (tmps cs0 : Array Value) (hp : tmps.getD 4 undef = .pointer (some ⟨w.heap.size, 0, none⟩)) (hq : tmps.getD 5 undef = .pointer (some ⟨w.heap.size + 1, 0, none⟩))
    (hx : w1.heap[w.heap.size]? = some (.cells cs0 53 (0, 0))) (hs : cs0.size = 6) (he : w1.heap[w.heap.size + 1]? = some (.cells #[.int .i64 0] 29 (0, 0))) (hb : Below w.heap.size w w1)
    (hR : ∀ e w2, WholeR w (zeroDg, 4) e w2 → R e w2) :
    Leaves Tryd.prog Tryd.f65 tmps R [{ target := .fn (.func 82) #[.pointer (some ⟨w.heap.size, 0, none⟩), .pointer (some ⟨w.heap.size + 1, 0, none⟩)], args := #[] }] (.panicking WRONG) w1 := by
  refine leaves_cons (f := 82) (args := #[.pointer (some ⟨w.heap.size, 0, none⟩), .pointer (some ⟨w.heap.size + 1, 0, none⟩)]) (by simp) (by simp [go_sem]) ?_
  refine (catchD_wrong w.heap.size (w.heap.size + 1) w1 cs0 hx hs he (by omega)).mono ?_
  rintro e u' w2 ⟨rfl, rfl, hx2, he2, hk, hsz, ho, ht, hu⟩
  exact ⟨_, wholeD_results tmps w2 _ _ _ _ hp hq zeroDg_size hx2 he2, hR _ _ ⟨rfl, ⟨ho.trans hb.os, ht.trans hb.tape, hu.trans hb.output, Nat.le_trans hb.size hsz, fun k h1 => by rw [hk k (Nat.lt_of_lt_of_le h1 hb.size) (by omega) (by omega), hb.block k h1]⟩⟩⟩
theorem wholeD_goodR (w w1 : World) (R : Ending → World → Prop) (tmps cs0 : Array Value) (z : Int) (hp : tmps.getD 4 undef = .pointer (some ⟨w.heap.size, 0, none⟩)) (hq : tmps.getD 5 undef = .pointer (some ⟨w.heap.size + 1, 0, none⟩))
    (hx : w1.heap[w.heap.size]? = some (.cells cs0 53 (0, 0))) (hs : cs0.size = 6) (he : w1.heap[w.heap.size + 1]? = some (.cells #[.int .i64 z] 29 (0, 0)))
    (hR : ∀ w2, Below w1.heap.size w1 w2 → R (.returned (.tuple #[.agg cs0, .int .i64 z])) w2) :
    Leaves Tryd.prog Tryd.f65 tmps R [{ target := .fn (.func 82) #[.pointer (some ⟨w.heap.size, 0, none⟩), .pointer (some ⟨w.heap.size + 1, 0, none⟩)], args := #[] }] .returning w1 := by
  refine leaves_cons (f := 82) (args := #[.pointer (some ⟨w.heap.size, 0, none⟩), .pointer (some ⟨w.heap.size + 1, 0, none⟩)]) (by simp) (by simp [go_sem]) ?_
  refine (catchD_idle ⟨w.heap.size, 0, none⟩ ⟨w.heap.size + 1, 0, none⟩ w1).mono ?_
  rintro e u' w2 ⟨rfl, rfl, hb2⟩
  have h1 := (Array.getElem?_eq_some_iff.1 hx).1
  have h2 := (Array.getElem?_eq_some_iff.1 he).1
  exact ⟨_, wholeD_results tmps w2 _ _ _ _ hp hq hs ((hb2.block _ h1).trans hx) ((hb2.block _ h2).trans he), hR w2 hb2⟩
set_option maxHeartbeats 8000000 in
theorem wholeD_any (A : Option Addr) (c : Nat) (l : List UInt8) (w : World) (hA : At w A (bv l)) (hl : l.length ≤ 512) :
    Calls Tryd.prog 65 #[.slice A l.length c, .func (.func 66) #[] #[]] w (WholeD w l) := by
  have hmf : ∀ (fn : Fn) (first cap : Array Value) (w : World), (Instr.makeFunc fn first cap).run Tryd.prog w = .ok (.func fn first cap) w := fun _ _ _ _ => rfl
  go_enter_defers Tryd.func65, Tryd.ntmps65
  go_wp2_with fail
  have hb0 := (((Below.refl w.heap.size w).alloc (Nat.le_refl _) (.cells (#[.int .i64 0, .int .i64 0, .int .i64 0, .int .i64 0, .int .i64 0, .slice none 0 0] : Array Value) 53)).alloc (by simp) (.cells #[.int .i64 0] 29))
  have hx0 := heap_alloc2_old w (.cells (#[.int .i64 0, .int .i64 0, .int .i64 0, .int .i64 0, .int .i64 0, .slice none 0 0] : Array Value) 53) (.cells #[.int .i64 0] 29)
  have he0 := heap_alloc2_new w (.cells (#[.int .i64 0, .int .i64 0, .int .i64 0, .int .i64 0, .int .i64 0, .slice none 0 0] : Array Value) 53) (.cells #[.int .i64 0] 29)
  have hA0 := hA.mono hb0
  generalize ((w.alloc (.cells (#[.int .i64 0, .int .i64 0, .int .i64 0, .int .i64 0, .int .i64 0, .slice none 0 0] : Array Value) 53)).alloc (.cells #[.int .i64 0] 29)) = w0 at *
  have hs0 := (Array.getElem?_eq_some_iff.1 he0).1
  refine (open_any A c l w0 hA0 (by omega)).mono ?_
  rintro e w1 ⟨g, ad, c', rfl, hr, hg, had, hb⟩
  have hb1 := hb0.trans (hb.mono hb0.size)
  have hs1 := hb.size
  have hx1 := (hb.block _ (by omega)).trans hx0
  have he1 := (hb.block _ hs0).trans he0
  go_wp2_with fail
  refine (readCD_any w1 g ad c' l hr).mono ?_
  intro e w2 hR
  unfold ReadCD at hR
  cases hp : parseD l with
  | none =>
    rw [hp] at hR
    obtain ⟨rfl, p, hr2, hg2⟩ := hR
    exact wholeD_badR w w2 _ _ _ rfl rfl ((hg2.block _ (by omega) (fun e => by injection e with e; omega)).trans hx1) zeroDg_size ((hg2.block _ (by omega) (fun e => by injection e with e; omega)).trans he1) (Bl.grown hb1 hg2 (fun k hk => by injection hk with hk; omega)) (fun e w2 h => WholeD_bad (.inl hp) h)
  | some r =>
    obtain ⟨d, p⟩ := r
    rw [hp] at hR
    obtain ⟨b, cb, rfl, ho2, hr2, hg2⟩ := hR
    have hb2 := Bl.grown hb1 hg2 (fun k hk => by injection hk with hk; omega)
    have hx2 := (hg2.block w.heap.size (by have := hb.size; omega) (fun e => by injection e with e; omega)).trans hx1
    have he2 := (hg2.block (w.heap.size + 1) (by have := hb.size; omega) (fun e => by injection e with e; omega)).trans he1
    have HPD := Lib.hid hp
    clear hg2 hx1 he1 hx0 he0 hp
    go_wp2_with (refine wpList_store_row rfl 53 (.tmp 4) (.tmp 12) rfl w.heap.size (dcells d (some ⟨b, 0, none⟩) cb) rfl rfl 53 _ hx2 infoDg rfl (dcells_all _ _ _) ?_)
    have hrow := setRow_at (cs := dcells d (some ⟨b, 0, none⟩) cb) hx2
    have hgr := setRow_grown w2 w.heap.size (dcells d (some ⟨b, 0, none⟩) cb)
    have hr3 : Rdr (w2.setRow w.heap.size (dcells d (some ⟨b, 0, none⟩) cb)) g ad c' l p := hr2.move hgr (fun e => by injection e with e; omega) (fun e => by injection e with e; omega)
    have he3 := (hgr.block (w.heap.size + 1) (Array.getElem?_eq_some_iff.1 he2).1 (fun e => by injection e with e; omega)).trans he2
    have hb3 := Bl.grown hb2 hgr (fun k hk => by injection hk with hk; omega)
    have ho3 := own_keep ho2 hgr (by omega)
    clear hgr hx2 he2 ho2
    generalize w2.setRow w.heap.size (dcells d (some ⟨b, 0, none⟩) cb) = w3 at *
    refine (end_yes w3 g ad c' l p hr3).mono ?_
    rintro e w4 ⟨rfl, n, rfl⟩
    have hb4 := Bl.drewN hb3 n
    have hx4 : (w3.drewN n).heap[w.heap.size]? = some (.cells (dcells d (some ⟨b, 0, none⟩) cb) 53 (0, 0)) := hrow
    have he4 : (w3.drewN n).heap[w.heap.size + 1]? = some (.cells #[.int .i64 0] 29 (0, 0)) := he3
    have ho4 := own_below ho3 (Bl.drewN (Below.refl w3.heap.size w3) n)
    clear hrow he3 hb3 hr3 ho3
    generalize w3.drewN n = w4 at *
    by_cases hlt : p < l.length
    · have hen : endE l p = 4 := by unfold endE; rw [if_pos hlt]
      rw [hen]
      go_wp2_with fail
      refine (must_int_bad _ 4 (by decide) w4).mono ?_
      rintro e w5 ⟨rfl, rfl⟩
      exact wholeD_badR w w4 _ _ _ rfl rfl hx4 (dcells_size _ _ _) he4 hb4 (fun e w2 h => WholeD_bad (.inr ⟨d, p, HPD.out, hlt⟩) h)
    · have hen : endE l p = 0 := by unfold endE; rw [if_neg hlt]
      rw [hen]
      go_wp2_with fail
      refine (must_int _ w4).mono ?_
      rintro e w5 ⟨rfl, rfl⟩
      have hgr := setRow_grown w4 w.heap.size (dcells d (some ⟨b, 0, none⟩) cb)
      have he5 := (hgr.block (w.heap.size + 1) (Array.getElem?_eq_some_iff.1 he4).1 (fun e => by injection e with e; omega)).trans he4
      have hb5 := Bl.grown hb4 hgr (fun k hk => by injection hk with hk; omega)
      have hx5 := setRow_at (cs := dcells d (some ⟨b, 0, none⟩) cb) hx4
      have ho5 := own_keep ho4 hgr (by omega)
      have HX4 := Lib.hid hx4
      have c0 : (w4.setRow w.heap.size (dcells d (some ⟨b, 0, none⟩) cb)).cell? ⟨w.heap.size + 1, 0, none⟩ = some (.int .i64 0) := by rw [cell_of_row _ _ 0 _ _ (0, 0) he5]; rfl
      have f0 : (w4.setRow w.heap.size (dcells d (some ⟨b, 0, none⟩) cb)).frozen? ⟨w.heap.size + 1, 0, none⟩ = false := by simp [World.frozen?, he5]
      have HE5 := Lib.hid he5
      have HX5 := Lib.hid hx5
      have HO5 := Lib.hid ho5
      clear he4 he5 hx4 hx5 hgr ho4 ho5
      go_wp2_with (first | (refine load_dg (dcells_size _ _ _) rfl (.tmp 4) rfl w.heap.size rfl HX4.out ?_) | (refine wpList_store_row rfl 53 (.tmp 4) (.tmp 16) rfl w.heap.size (dcells d (some ⟨b, 0, none⟩) cb) rfl rfl 53 (dcells d (some ⟨b, 0, none⟩) cb) HX4.out infoDg rfl (dcells_all _ _ _) ?_))
      have hg6 := grown_set (w4.setRow w.heap.size (dcells d (some ⟨b, 0, none⟩) cb)) (w.heap.size + 1) 0 (.int .i64 0)
      have hb6 := Bl.grown hb5 hg6 (fun k hk => by injection hk with hk; omega)
      have hx6 := (hg6.block w.heap.size (Array.getElem?_eq_some_iff.1 HX5.out).1 (fun e => by injection e with e; omega)).trans HX5.out
      have he6 : ((w4.setRow w.heap.size (dcells d (some ⟨b, 0, none⟩) cb)).setCell ⟨w.heap.size + 1, 0, none⟩ (.int .i64 0)).heap[w.heap.size + 1]? = some (.cells #[.int .i64 0] 29 (0, 0)) := by simp [World.setCell, Array.getElem?_modify, HE5.out]
      have ho6 := own_keep HO5.out hg6 (by omega)
      refine wholeD_goodR w _ _ _ _ 0 rfl rfl hx6 (dcells_size _ _ _) he6 (fun w7 hb7 => ?_)
      unfold WholeD
      rw [HPD.out]
      simp only
      rw [if_neg hlt]
      exact ⟨b, cb, ⟨rfl, hb6.trans (hb7.mono hb6.size)⟩, own_lower (own_below ho6 hb7) (by omega)⟩
end Go.Proofs.YtemmdlanidepbaaDoor
