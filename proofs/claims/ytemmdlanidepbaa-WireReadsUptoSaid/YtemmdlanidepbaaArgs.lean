/- What the calls' arguments look like, opened: bytes, and a struct's parts; how far they reach. -/
import Derived.Test.YtemmdlanidepbaaRows
import Derived.Test.YtemmdlanidepbaaLib
import Derived.Test.YtemmdlanidepbaaEnc
import Derived.Test.YtemmdlanidepbaaWr
import Derived.ProofKit
import Derived.OpenShut
import Derived.SizedLaws
import Derived.Carry
import Derived.Deep.Slices
namespace Go.Proofs.Ytemmdlanidepbaa
open Go.ChangeShapes Go.WideShapes Go.ChangeAt Go.RowKit

theorem ownOf : ownKnob Try.prog.godebug = none := by kernel_rfl
theorem laidOut : laidOutB Try.prog = true := by kernel_rfl
theorem cellsU8 : Try.prog.cellsOf 5 = 1 := by kernel_rfl
theorem bytesU8 : Try.prog.bytesOf 5 = 1 := by kernel_rfl

section
variable {H : Type} {enc : TypeId × Value → H} {W : World} {base : Nat} {held : Bool}

/-- A slice of bytes. -/
theorem bytes_open {fuel : Nat} {cs : List Value} {x : DataW H × List MemPlace} (h : DataW.trod enc Try.prog W base (fun _ => true) held fuel 23 cs = some x) :
    ∃ A c, ∃ l : List UInt8, cs = [.slice A l.length c] ∧ l.length ≤ c ∧ At W A (bv l) ∧ (x.1 = .nil ∧ l = [] ∨ ∃ es sp, x.1 = .slice es sp ∧ es.length = l.length) := by
  rcases open_ints Try.underlying23 Try.underlying5 cellsU8 h with ⟨rfl, rfl⟩ | ⟨a, len, cap, zs, rfl, _, hl, hm, hz, rfl, hcell, hw⟩
  · exact ⟨none, 0, [], rfl, Nat.le_refl _, fun j u hj => by simp [bv] at hj, .inl ⟨rfl, rfl⟩⟩
  · simp only [if_true] at hz
    have hlz : len ≤ zs.length := by omega
    have ht : ((zs.take len).map (fun z => UInt8.ofNat z.toNat)).length = len := by simp; omega
    refine ⟨some a, cap, (zs.take len).map (fun z => UInt8.ofNat z.toNat), by rw [ht], by rw [ht]; exact hl, fun j u hj => ⟨a, rfl, ?_⟩, .inr ⟨_, _, rfl, ?_⟩⟩
    · have hj' : j < len := by
        have := (List.getElem?_eq_some_iff.1 hj).1
        rwa [bv_len, ht] at this
      rw [hcell j (by omega)]
      have hzj : zs.getD j 0 ∈ zs := by
        rw [List.getD_eq_getElem?_getD, List.getElem?_eq_getElem (by omega), Option.getD_some]
        exact List.getElem_mem _
      have hb := hw _ hzj
      simp only [bv, List.map_map, List.getElem?_map, List.getElem?_take, if_pos hj'] at hj
      rw [List.getD_eq_getElem?_getD]
      cases hk : zs[j]? with
      | none => rw [hk] at hj; cases hj
      | some z =>
        rw [List.getD_eq_getElem?_getD, hk, Option.getD_some] at hb
        rw [hk] at hj
        simp only [Option.map_some, Option.some.injEq, Function.comp] at hj
        subst hj
        simp only [Lit.wf, Bool.and_eq_true, decide_eq_true_eq] at hb
        have h1 : 0 ≤ z := hb.1
        have h2 : z ≤ 255 := hb.2
        congr 2
        rw [Option.getD_some, UInt8.toNat_ofNat', Nat.mod_eq_of_lt (by omega)]
        omega
    · rw [ht]
      simp [lits]
      omega

/-- How far a part of a struct reaches. -/
theorem sized_agg {ts : List TypeId} {ds : List (DataW H)} (h : (DataW.weightsEach Try.prog ts ds).all (· ≤ reachBytes) = true) {j : Nat} {t : TypeId} {parts : List (DataW H)} {fs : Array Field}
    (ht : ts[j]? = some t) (hd : ds[j]? = some (.agg parts)) (hu : Try.prog.underlying t = some (.struct fs)) : (DataW.weightsEach Try.prog (fs.toList.map (·.type)) parts).all (· ≤ reachBytes) = true :=
  List.all_eq_true.2 fun n hn => List.all_eq_true.1 h n (DataW.weights_mem_each ht hd n (by simp only [DataW.weights, hu]; exact hn))
/-- How many bytes there may be. -/
theorem sized_bytes {ts : List TypeId} {ds : List (DataW H)} (h : (DataW.weightsEach Try.prog ts ds).all (· ≤ reachBytes) = true) {j : Nat} {d : DataW H} {l : List UInt8}
    (ht : ts[j]? = some 23) (hd : ds[j]? = some d) (hx : d = .nil ∧ l = [] ∨ ∃ es sp, d = .slice es sp ∧ es.length = l.length) : l.length ≤ 140737488351232 := by
  rcases hx with ⟨_, rfl⟩ | ⟨es, sp, rfl, e⟩
  · simp
  · have := sized_slice h ht hd Try.underlying23
    rw [bytesU8] at this
    unfold reachBytes at this
    omega

/-- The things that are written. -/
theorem things_open {fuel : Nat} {cs : List Value} {x : DataW H × List MemPlace} (h : DataW.trod enc Try.prog W base (fun _ => true) held fuel 25 cs = some x) :
    ∃ (n : Nat) (s : Int) (f : Bool) (A : Option Addr) (c : Nat) (l : List UInt8) (d3 : DataW H), cs = [.int .u64 (n : Int), .int .i64 s, .bool f, .slice A l.length c] ∧ U64 n ∧ I64 s ∧ l.length ≤ c ∧ At W A (bv l) ∧
      x.1 = .agg [.lit (.int .u64 (n : Int)), .lit (.int .i64 s), .lit (.bool f), d3] ∧ (d3 = .nil ∧ l = [] ∨ ∃ es sp, d3 = .slice es sp ∧ es.length = l.length) := by
  obtain ⟨xs, m, _, rfl, hl, hlen, hf⟩ := DataW.trod_struct Try.underlying25 h
  rw [show Try.prog.cellsOf 25 = 4 by kernel_rfl] at hl
  match cs, hl, xs, hlen with
  | [c0, c1, c2, c3], _, [y0, y1, y2, y3], _ =>
    have h0 : DataW.trod enc Try.prog W base (fun _ => true) held m 22 ((([c0, c1, c2, c3] : List Value).drop 0).take (Try.prog.cellsOf 22)) = some y0 := hf 0 _ rfl
    have h1 : DataW.trod enc Try.prog W base (fun _ => true) held m 2 ((([c0, c1, c2, c3] : List Value).drop 1).take (Try.prog.cellsOf 2)) = some y1 := hf 1 _ rfl
    have h2 : DataW.trod enc Try.prog W base (fun _ => true) held m 4 ((([c0, c1, c2, c3] : List Value).drop 2).take (Try.prog.cellsOf 4)) = some y2 := hf 2 _ rfl
    have h3 : DataW.trod enc Try.prog W base (fun _ => true) held m 23 ((([c0, c1, c2, c3] : List Value).drop 3).take (Try.prog.cellsOf 23)) = some y3 := hf 3 _ rfl
    clear hf
    rw [show Try.prog.cellsOf 22 = 1 by kernel_rfl] at h0
    rw [show Try.prog.cellsOf 2 = 1 by kernel_rfl] at h1
    rw [show Try.prog.cellsOf 4 = 1 by kernel_rfl] at h2
    rw [show Try.prog.cellsOf 23 = 1 by kernel_rfl] at h3
    simp only [List.drop, List.take] at h0 h1 h2 h3
    obtain ⟨n, e0, rfl, w0⟩ := DataW.trod_int Try.underlying22 h0
    obtain ⟨s, e1, rfl, w1⟩ := DataW.trod_int Try.underlying2 h1
    obtain ⟨f, e2, rfl⟩ := DataW.trod_bool Try.underlying4 h2
    obtain ⟨A, c, l, e3, hlc, hA, hx⟩ := bytes_open h3
    injection e0 with e0
    injection e1 with e1
    injection e2 with e2
    injection e3 with e3
    subst e0 e1 e2 e3
    simp only [Lit.wf, Bool.and_eq_true, decide_eq_true_eq] at w0 w1
    have p0 : 0 ≤ n := w0.1
    have p1 : n ≤ 18446744073709551615 := w0.2
    have p2 : -9223372036854775808 ≤ s := w1.1
    have p3 : s ≤ 9223372036854775807 := w1.2
    refine ⟨n.toNat, s, f, A, c, l, y3.1, ?_, by unfold U64; omega, by unfold I64; omega, hlc, hA, ?_, hx⟩
    · rw [Int.toNat_of_nonneg p0]
    · rw [Int.toNat_of_nonneg p0]
      rfl

/-- Slices of bytes. -/
theorem rows_open {fuel : Nat} {cs : List Value} {x : DataW H × List MemPlace} (h : DataW.trod enc Try.prog W base (fun _ => true) held fuel 26 cs = some x) :
    ∃ A c, ∃ L : List (List UInt8), cs = [.slice A L.length c] ∧ L.length ≤ c ∧ RowsAt W A L ∧ (x.1 = .nil ∧ L = [] ∨ ∃ es sp, x.1 = .slice es sp ∧ es.length = L.length ∧
      ∀ j (h1 : j < es.length) (h2 : j < L.length), es[j] = .nil ∧ L[j] = [] ∨ ∃ e' s', es[j] = .slice e' s' ∧ e'.length = (L[j]).length) := by
  rcases Go.Deep.open_slice1 Try.underlying26 (by kernel_rfl) h with ⟨rfl, rfl⟩ | ⟨a, len, cap, m, n, V, D, Pl, rfl, _, hl, hm, hmm, rfl, hV⟩
  · exact ⟨none, 0, [], rfl, Nat.le_refl _, ⟨[], rfl, At.nil _ _, fun j hj => absurd hj (by simp)⟩, .inl ⟨rfl, rfl⟩⟩
  · simp only [if_true] at hmm
    have each : ∀ i, i < len → ∃ p : Option Addr × Nat × List UInt8, V i = .slice p.1 p.2.2.length p.2.1 ∧ p.2.2.length ≤ p.2.1 ∧ At W p.1 (bv p.2.2) ∧ (D i = .nil ∧ p.2.2 = [] ∨ ∃ es sp, D i = .slice es sp ∧ es.length = p.2.2.length) := fun i hi => by
      obtain ⟨A, c, l, e, h1, h2, h3⟩ := bytes_open (hV i (by omega)).2
      exact ⟨(A, c, l), (List.cons.inj e).1, h1, h2, h3⟩
    obtain ⟨f, hf⟩ : ∃ f : Nat → Option Addr × Nat × List UInt8, ∀ i, i < len → V i = .slice (f i).1 (f i).2.2.length (f i).2.1 ∧ (f i).2.2.length ≤ (f i).2.1 ∧ At W (f i).1 (bv (f i).2.2) ∧ (D i = .nil ∧ (f i).2.2 = [] ∨ ∃ es sp, D i = .slice es sp ∧ es.length = (f i).2.2.length) :=
      ⟨fun i => if hi : i < len then (each i hi).choose else (none, 0, []), fun i hi => by simp only [dif_pos hi]; exact (each i hi).choose_spec⟩
    have hL : ((List.range len).map fun i => (f i).2.2).length = len := by simp
    refine ⟨some a, cap, (List.range len).map fun i => (f i).2.2, by rw [hL], by rw [hL]; exact hl, ⟨(List.range len).map V, by simp, fun j u hj => ⟨a, rfl, ?_⟩, fun j hj => ?_⟩, .inr ⟨_, _, rfl, by simp, fun j h1 h2 => ?_⟩⟩
    · have hj' : j < len := by simpa using (List.getElem?_eq_some_iff.1 hj).1
      rw [(hV j (by omega)).1]
      simpa [hj'] using hj
    · have hj' : j < len := by rwa [hL] at hj
      refine ⟨(f j).1, (f j).2.1, by simp [hj', (hf j hj').1], ?_, ?_⟩
      · simpa using (hf j hj').2.1
      · simpa using (hf j hj').2.2.1
    · have hj' : j < len := by rwa [hL] at h2
      simpa using (hf j hj').2.2.2

theorem bulk_pos (d : DataW H) : 1 ≤ Rows.uptoBulk d := by
  cases d with
  | lit l => cases l <;> simp [Rows.uptoBulk]
  | _ => simp [Rows.uptoBulk]
theorem bulk_len : ∀ ds : List (DataW H), ds.length ≤ Rows.uptoBulkAll ds
  | [] => Nat.zero_le _
  | d :: r => by
    have := bulk_pos d
    have := bulk_len r
    simp only [List.length_cons, Rows.uptoBulkAll]
    omega
theorem bulk_bytes {d : DataW H} {l : List UInt8} (h : d = .nil ∧ l = [] ∨ ∃ es sp, d = .slice es sp ∧ es.length = l.length) : l.length ≤ Rows.uptoBulk d := by
  rcases h with ⟨_, rfl⟩ | ⟨es, sp, rfl, e⟩
  · simp
  · have := bulk_len es
    simp only [Rows.uptoBulk]
    omega
theorem bulk_flat : ∀ (es : List (DataW H)) (L : List (List UInt8)), es.length = L.length → (∀ j (h1 : j < es.length) (h2 : j < L.length), es[j] = .nil ∧ L[j] = [] ∨ ∃ e' s', es[j] = .slice e' s' ∧ e'.length = (L[j]).length) → L.flatten.length ≤ Rows.uptoBulkAll es
  | [], [], _, _ => by simp
  | d :: r, l :: L, e, h => by
    have h0 : l.length ≤ Rows.uptoBulk d := bulk_bytes (h 0 (by simp) (by simp))
    have h1 := bulk_flat r L (by simpa using e) (fun j a b => h (j + 1) (by simp; omega) (by simp; omega))
    simp only [List.flatten_cons, List.length_append, Rows.uptoBulkAll]
    omega
  | [], _ :: _, e, _ => by simp at e
  | _ :: _, [], e, _ => by simp at e
end
end Go.Proofs.Ytemmdlanidepbaa
