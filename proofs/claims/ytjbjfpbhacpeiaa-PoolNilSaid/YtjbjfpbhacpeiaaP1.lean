/- Contracts of the pool's there and at. -/
import Derived.Test.YtjbjfpbhacpeiaaPp
namespace Go.Proofs.Ytjbjfpbhacpeiaa
open Go.RowKit
set_option linter.unusedSimpArgs false
set_option linter.unusedVariables false
set_option maxRecDepth 100000

/-- no pool: nil, or one of no places -/
def NoPool (w : World) (A : Option Addr) : Prop := A = none ∨ ∃ b, A = some ⟨b, 0, none⟩ ∧ w.cell? ⟨b, 1680, none⟩ = some (.int .i64 0)
section
variable {w : World} {b m : Nat} {K : Int} {S : PS}
theorem PoolAt.n (h : PoolAt w b m S) (hS : S.Ok K) : w.cell? ⟨b, 1680, none⟩ = some (.int .i64 (S.s.length : Int)) := by rw [h.cells.cell]; exact (plist_tail hS m).1
theorem PoolAt.mp (h : PoolAt w b m S) (hS : S.Ok K) : w.cell? ⟨b, 1681, none⟩ = some (.map (some m)) := by rw [h.cells.cell]; exact (plist_tail hS m).2.1
theorem PoolAt.hand (h : PoolAt w b m S) (hS : S.Ok K) : w.cell? ⟨b, 1682, none⟩ = some (.int .i64 (S.hand : Int)) := by rw [h.cells.cell]; exact (plist_tail hS m).2.2
theorem PoolAt.slot (h : PoolAt w b m S) (hS : S.Ok K) {i j : Nat} (hi : i < S.s.length) (hj : j < 105) : w.cell? ⟨b, i * 105 + j, none⟩ = S.s[i]?.bind fun x => (pcells x)[j]? := by rw [h.cells.cell]; exact plist_slot hS m hi hj
end
theorem there_yes (w : World) (b m : Nat) {K : Int} {S : PS} (h : PoolAt w b m S) (hS : S.Ok K) : Calls Try.prog 41 #[.pointer (some ⟨b, 0, none⟩)] w (fun e w' => e = .returned (.bool true) ∧ w = w') := by
  have c := h.n hS
  have hp : 0 < S.s.length := hS.pos
  clear h hS
  go_enter Try.func41, Try.ntmps41
  go_wp2_with fail
  go_ret
  exact ⟨rfl, rfl⟩
theorem there_no (w : World) (A : Option Addr) (h : NoPool w A) : Calls Try.prog 41 #[.pointer A] w (fun e w' => e = .returned (.bool false) ∧ w = w') := by
  rcases h with rfl | ⟨b, rfl, c⟩
  · go_enter Try.func41, Try.ntmps41
    go_wp2_with fail
    go_ret
    exact ⟨rfl, rfl⟩
  · go_enter Try.func41, Try.ntmps41
    go_wp2_with fail
    go_ret
    exact ⟨rfl, rfl⟩
theorem zero_int (w : World) : (zeroValue 3).run Try.prog w = .ok (.int .i64 0) w := Try.zeroValue3 w
theorem lookup_run {w : World} {m : Nat} {D : DataW Unit} {s : List Slot} (h : OwnsI w m (Maps.size D) D) (hm : MapR D s) (p : Int) (hp : I64 p) :
    (∀ i, posF p s = some i → (Instr.lookup 68 (.map (some m)) (.int .i64 p) true).run Try.prog w = .ok (.tuple #[.int .i64 (i : Int), .bool true]) w) ∧
    (posF p s = none → ∃ c : Int, (Instr.lookup 68 (.map (some m)) (.int .i64 p) true).run Try.prog w = .ok (.tuple #[.int .i64 c, .bool false]) w) := by
  have hw : (Lit.int .i64 p).wf = true := by unfold I64 at hp; simp only [Lit.wf, Bool.and_eq_true, decide_eq_true_eq]; exact hp
  obtain ⟨v, ps, hr, hv⟩ := h.look_ok (Maps.int_keyed Try.underlying3) Try.underlying68 (zero_int w) (zd := .lit (.int .i64 0)) (zp := []) (plainElem_int Try.underlying3 (by decide)) (Maps.keyOf_int_mk Try.underlying3 hw)
  obtain ⟨c, rfl, e, _⟩ := plainElem_int_inv Try.underlying3 hv
  have e1 := congrArg Prod.fst e
  refine ⟨fun i hi => ?_, fun hn => ⟨c, ?_⟩⟩
  · rw [hr, (hm.1 p hp).1, hi]
    have e2 := (hm.1 p hp).2 i hi (.lit (.int .i64 0))
    have e3 : c = (i : Int) := by
      have : (DataW.lit (Lit.int .i64 (i : Int)) : DataW Unit) = .lit (.int .i64 c) := e2.symm.trans e1
      injection this with this; injection this with _ this; exact this.symm
    rw [e3]
    rfl
  · rw [hr, (hm.1 p hp).1, hn]
    rfl
theorem at_hit (w : World) (b m : Nat) {K : Int} {S : PS} (h : PoolAt w b m S) (hS : S.Ok K) (p : Int) (hp : I64 p) (i : Nat) (hi : posF p S.s = some i) :
    Calls Try.prog 42 #[.pointer (some ⟨b, 0, none⟩), .int .i64 p] w (fun e w' => e = .returned (.tuple #[.pointer (some ⟨b, i * 105, none⟩), .int .i64 0]) ∧ w = w') := by
  have c := h.mp hS
  have H := Lib.hid (there_yes w b m h hS)
  have hl : i < 16 := by
    obtain ⟨l, hl, _⟩ := posF_some hi
    have h1 := (List.getElem?_eq_some_iff.1 hl).1
    have h2 := hS.len
    omega
  obtain ⟨D, hD, hm⟩ := h.map
  have hrun := (lookup_run hD hm p hp).1 i hi
  clear h hS hi hD hm
  go_enter Try.func42, Try.ntmps42
  go_wp2_with fail
  refine H.out.mono ?_
  rintro e w' ⟨rfl, rfl⟩
  go_wp2_with fail
  go_ret2
  exact ⟨rfl, rfl⟩
theorem at_miss (w : World) (b m : Nat) {K : Int} {S : PS} (h : PoolAt w b m S) (hS : S.Ok K) (p : Int) (hp : I64 p) (hi : posF p S.s = none) :
    Calls Try.prog 42 #[.pointer (some ⟨b, 0, none⟩), .int .i64 p] w (fun e w' => e = .returned (.tuple #[.pointer none, .int .i64 6]) ∧ w = w') := by
  have c := h.mp hS
  have H := Lib.hid (there_yes w b m h hS)
  obtain ⟨D, hD, hm⟩ := h.map
  obtain ⟨k, hrun⟩ := (lookup_run hD hm p hp).2 hi
  clear h hS hi hD hm
  go_enter Try.func42, Try.ntmps42
  go_wp2_with fail
  refine H.out.mono ?_
  rintro e w' ⟨rfl, rfl⟩
  go_wp2_with fail
  go_ret2
  exact ⟨rfl, rfl⟩
theorem at_no (w : World) (A : Option Addr) (h : NoPool w A) (p : Int) : Calls Try.prog 42 #[.pointer A, .int .i64 p] w (fun e w' => e = .returned (.tuple #[.pointer none, .int .i64 1]) ∧ w = w') := by
  have H := Lib.hid (there_no w A h)
  clear h
  go_enter Try.func42, Try.ntmps42
  go_wp2_with fail
  refine H.out.mono ?_
  rintro e w' ⟨rfl, rfl⟩
  go_wp2_with fail
  go_ret2
  exact ⟨rfl, rfl⟩

/-! ### a whole frame, loaded and stored -/
theorem infoFr : (Try.prog.info? 39).map (·.size) = some 102 := by kernel_rfl
theorem infoPl : (Try.prog.info? 66).map (·.size) = some 105 := by kernel_rfl
theorem zfr (w : World) : (zeroValue 39).run Try.prog w = .ok (.agg (fA fr0)) w := by kernel_rfl
theorem fv_all (f : Fr) : (fcells f).toArray.all (·.oneCell') = true := all_oneCell_toArray (fcells_one f)
theorem pcells_frame (l : Live) (hl : l.f.body.length = 96) (j : Nat) (v : Value) (h : (fcells l.f)[j]? = some v) : (pcells (some l))[3 + j]? = some v := by
  rw [pcells, List.getElem?_append_right (by simp)]
  simpa using h
/-- the frame of a place, loaded -/
theorem load_fr {w : World} {b m : Nat} {K : Int} {S : PS} (h : PoolAt w b m S) (hS : S.Ok K) {i : Nat} {l : Live} (hi : S.s[i]? = some (some l)) :
    (Instr.loadAt 39 (.pointer (some ⟨b, i * 105 + 3, none⟩))).run Try.prog w = .ok (.agg (fA l.f)) w := by
  have hok := (hS.live i l hi).1
  have hlt := (List.getElem?_eq_some_iff.1 hi).1
  refine run_loadAt_mid w b (i * 105 + 3) 39 (fcells l.f) _ (h.cells.range _ _ fun j v hj => ?_) Try.underlying39 rfl (infoFr.trans (by rw [fcells_len hok]))
  have hj2 : j < 102 := by have := (List.getElem?_eq_some_iff.1 hj).1; rw [fcells_len hok] at this; exact this
  rw [Nat.add_assoc, plist_slot hS m hlt (by omega), hi]
  exact pcells_frame l hok.body j v hj
theorem fr_store {w : World} {g : Nat} {f0 f : Fr} (hg : PCells w g (fcells f0) 39) (h0 : f0.Ok) (hf : f.Ok) : (Instr.storeAt 39 (.pointer (some ⟨g, 0, none⟩)) (.agg (fA f))).run Try.prog w = .ok () (w.setRow g (fA f)) := by
  have h1 := run_storeVar_row (P := Try.prog) w g 39 39 (fcells f0).toArray (fcells f).toArray hg
    (infoFr.trans (by rw [List.size_toArray, fcells_len hf])) (by rw [List.size_toArray, List.size_toArray, fcells_len hf, fcells_len h0]) (fv_all f)
  simp only [Instr.storeAt, Instr.sureAddr, Sem.run_bind, Sem.run_pure, Result.andThen_ok, fA, h1]
/-- what a pool's call turns -/
def PB (b m : Nat) (k : Nat) : Prop := k = b ∨ k = m
section
variable {w : World} {b m : Nat} {K : Int} {S : PS}
theorem PoolAt.ne (h : PoolAt w b m S) : m ≠ b := fun e => by
  obtain ⟨D, ⟨es, clock, hb, _⟩, _⟩ := h.map
  have := h.cells
  unfold PCells at this
  rw [e, this] at hb
  cases hb
theorem PoolAt.mlt (h : PoolAt w b m S) : m < w.heap.size := by
  obtain ⟨D, hD, _⟩ := h.map
  exact hD.lt
theorem owns_kept {w' : World} {n : Nat} {D : DataW Unit} {T : Nat → Prop} (h : OwnsI w m n D) (hx : Ex T w w') (hT : ¬ T m) : OwnsI w' m n D := by
  obtain ⟨es, clock, hb, F, hn, e⟩ := h
  exact ⟨es, clock, (hx.block m (Array.getElem?_eq_some_iff.1 hb).1 hT).trans hb, F, hn, e⟩
theorem PoolAt.kept {w' : World} {T : Nat → Prop} (h : PoolAt w b m S) (hx : Ex T w w') (hb : ¬ T b) (hm : ¬ T m) : PoolAt w' b m S :=
  ⟨h.cells.kept hx hb, by obtain ⟨D, hD, hM⟩ := h.map; exact ⟨D, owns_kept hD hx hm, hM⟩⟩
theorem PoolAt.later {w' : World} (h : PoolAt w b m S) (hb : Below w.heap.size w w') : PoolAt w' b m S := h.kept (T := fun _ => False) (Ex.below hb) id id
theorem PoolAt.alloc (h : PoolAt w b m S) (o : Obj) : PoolAt (w.alloc o) b m S := h.later ((Below.refl _ w).alloc (Nat.le_refl _) o)
theorem PoolAt.set (h : PoolAt w b m S) (hS : S.Ok K) {i j : Nat} {l l' : Live} (hi : S.s[i]? = some (some l)) {v : Value} (hj : j < 105) (e : (pcells (some l)).set j v = pcells (some l')) {K' : Int} (hS' : (S.put i (some l')).Ok K') (hp : l'.f.page = l.f.page) :
    PoolAt (w.setCell ⟨b, i * 105 + j, none⟩ v) b m (S.put i (some l')) := by
  have hl := (hS.live i l hi).1.body
  refine ⟨by rw [← plist_set hS m hi v hj e (fun l0 e0 => by injection e0 with e0; subst e0; exact hl)]; exact h.cells.set _ _, ?_⟩
  obtain ⟨D, hD, hM⟩ := h.map
  refine ⟨D, owns_kept hD (setCell_ex (T := fun k => k = b) _ v w rfl) h.ne, ?_⟩
  by_cases hk : K ≤ K'
  · exact hM.same (hS.mono hk) hS' hi hp
  · exact hM.same hS (hS'.mono (by omega)) hi hp
theorem PoolAt.sets (h : PoolAt w b m S) (hS : S.Ok K) {i j : Nat} {l l' : Live} (hi : S.s[i]? = some (some l)) (vs : List Value) (hj : j + vs.length ≤ 105) (e : patch (pcells (some l)) j vs = pcells (some l')) (hS' : (S.put i (some l')).Ok K) (hp : l'.f.page = l.f.page) :
    PoolAt (w.setCells b (i * 105 + j) vs) b m (S.put i (some l')) := by
  have hlt := (List.getElem?_eq_some_iff.1 hi).1
  have := hS.len
  refine ⟨by rw [← plist_patch hS m hi vs hj e]; exact h.cells.sets vs (by rw [plist_len hS]; omega), ?_⟩
  obtain ⟨D, hD, hM⟩ := h.map
  exact ⟨D, owns_kept hD (setCells_ex (T := fun k => k = b) vs _ w rfl) h.ne, hM.same hS hS' hi hp⟩
theorem setRow_at {w : World} {g : Nat} {t : TypeId} {old cs : Array Value} (h : w.heap[g]? = some (.cells old t (0, 0))) : (w.setRow g cs).heap[g]? = some (.cells cs t (0, 0)) := by
  simp [World.setRow, Array.getElem?_modify, h]
theorem setRow_heap_ne (w : World) (g : Nat) (cs : Array Value) (k : Nat) (hk : k ≠ g) : (w.setRow g cs).heap[k]? = w.heap[k]? := by
  simp [World.setRow, Array.getElem?_modify, Ne.symm hk]
theorem Ex.row {T : Nat → Prop} {w W : World} (h : Ex T w W) (g : Nat) (hg : w.heap.size ≤ g) (cs : Array Value) : Ex T w (W.setRow g cs) :=
  ⟨h.os, h.tape, h.output, by simpa [World.setRow] using h.size, fun k hk hn => (setRow_heap_ne W g cs k (by omega)).trans (h.block k hk hn)⟩
theorem Ex.row' {T : Nat → Prop} (w : World) (g : Nat) (hg : T g) (cs : Array Value) : Ex T w (w.setRow g cs) :=
  ⟨rfl, rfl, rfl, by simp [World.setRow], fun k _ hn => setRow_heap_ne w g cs k (fun e => hn (by rw [e]; exact hg))⟩
theorem PoolAt.row (h : PoolAt w b m S) (g : Nat) (hb : g ≠ b) (hm : g ≠ m) (cs : Array Value) : PoolAt (w.setRow g cs) b m S := h.kept (Ex.row' (T := fun k => k = g) w g rfl cs) (Ne.symm hb) (Ne.symm hm)
/-- the cells of a place that is taken -/
theorem PoolAt.live (h : PoolAt w b m S) (hS : S.Ok K) {i : Nat} {l : Live} (hi : S.s[i]? = some (some l)) :
    w.cell? ⟨b, i * 105, none⟩ = some (.bool true) ∧ w.cell? ⟨b, i * 105 + 1, none⟩ = some (.bool l.used) ∧ w.cell? ⟨b, i * 105 + 2, none⟩ = some (.int .i64 l.pins) ∧ w.cell? ⟨b, i * 105 + 3, none⟩ = some (.int .i64 l.f.page) := by
  have hlt := (List.getElem?_eq_some_iff.1 hi).1
  have h0 := h.slot hS hlt (j := 0) (by omega)
  have h1 := h.slot hS hlt (j := 1) (by omega)
  have h2 := h.slot hS hlt (j := 2) (by omega)
  have h3 := h.slot hS hlt (j := 3) (by omega)
  rw [hi] at h0 h1 h2 h3
  exact ⟨h0, h1, h2, h3⟩
theorem PoolAt.free (h : PoolAt w b m S) (hS : S.Ok K) {i : Nat} (hi : S.s[i]? = some none) : w.cell? ⟨b, i * 105, none⟩ = some (.bool false) := by
  have hlt := (List.getElem?_eq_some_iff.1 hi).1
  have h0 := h.slot hS hlt (j := 0) (by omega)
  rw [hi] at h0
  exact h0
theorem PoolAt.fr (h : PoolAt w b m S) (hS : S.Ok K) {i : Nat} {l : Live} (hi : S.s[i]? = some (some l)) : w.rangeAt b (i * 105 + 3) (fcells l.f) := by
  have hok := (hS.live i l hi).1
  have hlt := (List.getElem?_eq_some_iff.1 hi).1
  refine h.cells.range _ _ fun j v hj => ?_
  have hj2 : j < 102 := by have := (List.getElem?_eq_some_iff.1 hj).1; rw [fcells_len hok] at this; exact this
  rw [Nat.add_assoc, plist_slot hS m hlt (by omega), hi]
  exact pcells_frame l hok.body j v hj
end
theorem infoFrL {f : Fr} (h : f.Ok) : (Try.prog.info? 39).map (·.size) = some (fcells f).length := infoFr.trans (by rw [fcells_len h])
theorem infoFrA {f : Fr} (h : f.Ok) : (Try.prog.info? 39).map (·.size) = some (fA f).size := infoFr.trans (by rw [fA, List.size_toArray, fcells_len h])
theorem fA_size {f g : Fr} (h : f.Ok) (k : g.Ok) : (fA f).size = (fA g).size := by rw [fA, fA, List.size_toArray, List.size_toArray, fcells_len h, fcells_len k]
/-- a call that hands back a frame and one thing more -/
theorem fr_end {fn : Func} {p q : Tmp} (hr : fn.results = #[.cell p 39, .tmp q]) {R : Ending → World → Prop} {a : Act} {W : World} {g : Nat} {f : Fr} {z : Value} (hp : a.tmps.getD p undef = .pointer (some ⟨g, 0, none⟩)) (hq : a.tmps.getD q undef = z) (hd : a.defers = [])
    (hf : f.Ok) (hg : W.heap[g]? = some (.cells (fA f) 39 (0, 0))) (h : R (.returned (.tuple #[.agg (fA f), z])) W) : bodyPost Try.prog fn R .ret a W := by
  refine bodyPost_ret (v := .tuple #[.agg (fA f), z]) ?_ hd h
  have hp' : a.tmps[p]?.getD undef = .pointer (some ⟨g, 0, none⟩) := by simpa using hp
  have hq' : a.tmps[q]?.getD undef = z := by simpa using hq
  have l1 := run_loadVar_row (P := Try.prog) W g 39 39 (fA f) (0, 0) _ hg Try.underlying39 rfl (infoFrA hf)
  simp [results, hr, hp', hq', asAddr, l1]
end Go.Proofs.Ytjbjfpbhacpeiaa
