/- What the calls' arguments look like, opened: bytes, and a struct's parts; how far they reach. -/
import Derived.Test.YtemmdlanidepbaaDoorRows
import Derived.Test.YtemmdlanidepbaaDoorLib
import Derived.Test.YtemmdlanidepbaaDoorEnc
import Derived.Test.YtemmdlanidepbaaDoorWr
import Derived.ProofKit
import Derived.OpenShut
import Derived.SizedLaws
import Derived.Carry
import Derived.Deep.Slices
namespace Go.Proofs.YtemmdlanidepbaaDoor
open Go.ChangeShapes Go.WideShapes Go.ChangeAt Go.RowKit

theorem ownOf : ownKnob Tryd.prog.godebug = none := by kernel_rfl
theorem laidOut : laidOutB Tryd.prog = true := by kernel_rfl
theorem cellsU8 : Tryd.prog.cellsOf 5 = 1 := by kernel_rfl
theorem bytesU8 : Tryd.prog.bytesOf 5 = 1 := by kernel_rfl

section
variable {H : Type} {enc : TypeId × Value → H} {W : World} {base : Nat} {held : Bool}

/-- A slice of bytes. -/
theorem bytes_open {fuel : Nat} {cs : List Value} {x : DataW H × List MemPlace} (h : DataW.trod enc Tryd.prog W base (fun _ => true) held fuel 28 cs = some x) :
    ∃ A c, ∃ l : List UInt8, cs = [.slice A l.length c] ∧ l.length ≤ c ∧ At W A (bv l) ∧ (x.1 = .nil ∧ l = [] ∨ ∃ es sp, x.1 = .slice es sp ∧ es.length = l.length) := by
  rcases open_ints Tryd.underlying28 Tryd.underlying5 cellsU8 h with ⟨rfl, rfl⟩ | ⟨a, len, cap, zs, rfl, _, hl, hm, hz, rfl, hcell, hw⟩
  · exact ⟨none, 0, [], rfl, Nat.le_refl _, fun j u hj => by simp [bv] at hj, .inl ⟨rfl, rfl⟩⟩
  · simp only [if_true] at hz
    have hlz : len ≤ zs.length := by omega
    have ht : ((zs.take len).map (fun z => UInt8.ofNat z.toNat)).length = len := by simp; omega
    refine ⟨some a, cap, (zs.take len).map (fun z => UInt8.ofNat z.toNat), by rw [ht], by rw [ht]; exact hl, fun j u hj => ⟨a, rfl, ?_⟩, .inr ⟨_, _, rfl, ?_⟩⟩
    · have hj' : j < len := by
        have := (List.getElem?_eq_some_iff.1 hj).1
        rwa [bv_len, ht] at this
      rw [hcell j (by omega)]
      have hzj : zs.getD j 0 ∈ zs := by
        rw [List.getD_eq_getElem?_getD, List.getElem?_eq_getElem (by omega), Option.getD_some]
        exact List.getElem_mem _
      have hb := hw _ hzj
      simp only [bv, List.map_map, List.getElem?_map, List.getElem?_take, if_pos hj'] at hj
      rw [List.getD_eq_getElem?_getD]
      cases hk : zs[j]? with
      | none => rw [hk] at hj; cases hj
      | some z =>
        rw [List.getD_eq_getElem?_getD, hk, Option.getD_some] at hb
        rw [hk] at hj
        simp only [Option.map_some, Option.some.injEq, Function.comp] at hj
        subst hj
        simp only [Lit.wf, Bool.and_eq_true, decide_eq_true_eq] at hb
        have h1 : 0 ≤ z := hb.1
        have h2 : z ≤ 255 := hb.2
        congr 2
        rw [Option.getD_some, UInt8.toNat_ofNat', Nat.mod_eq_of_lt (by omega)]
        omega
    · rw [ht]
      simp [lits]
      omega

/-- How far a part of a struct reaches. -/
theorem sized_agg {ts : List TypeId} {ds : List (DataW H)} (h : (DataW.weightsEach Tryd.prog ts ds).all (· ≤ reachBytes) = true) {j : Nat} {t : TypeId} {parts : List (DataW H)} {fs : Array Field}
    (ht : ts[j]? = some t) (hd : ds[j]? = some (.agg parts)) (hu : Tryd.prog.underlying t = some (.struct fs)) : (DataW.weightsEach Tryd.prog (fs.toList.map (·.type)) parts).all (· ≤ reachBytes) = true :=
  List.all_eq_true.2 fun n hn => List.all_eq_true.1 h n (DataW.weights_mem_each ht hd n (by simp only [DataW.weights, hu]; exact hn))
/-- How many bytes there may be. -/
theorem sized_bytes {ts : List TypeId} {ds : List (DataW H)} (h : (DataW.weightsEach Tryd.prog ts ds).all (· ≤ reachBytes) = true) {j : Nat} {d : DataW H} {l : List UInt8}
    (ht : ts[j]? = some 28) (hd : ds[j]? = some d) (hx : d = .nil ∧ l = [] ∨ ∃ es sp, d = .slice es sp ∧ es.length = l.length) : l.length ≤ 140737488351232 := by
  rcases hx with ⟨_, rfl⟩ | ⟨es, sp, rfl, e⟩
  · simp
  · have := sized_slice h ht hd Tryd.underlying28
    rw [bytesU8] at this
    unfold reachBytes at this
    omega

theorem bulk_pos (d : DataW H) : 1 ≤ Rows.uptoBulk d := by
  cases d with
  | lit l => cases l <;> simp [Rows.uptoBulk]
  | _ => simp [Rows.uptoBulk]
theorem bulk_len : ∀ ds : List (DataW H), ds.length ≤ Rows.uptoBulkAll ds
  | [] => Nat.zero_le _
  | d :: r => by
    have := bulk_pos d
    have := bulk_len r
    simp only [List.length_cons, Rows.uptoBulkAll]
    omega
theorem bulk_bytes {d : DataW H} {l : List UInt8} (h : d = .nil ∧ l = [] ∨ ∃ es sp, d = .slice es sp ∧ es.length = l.length) : l.length ≤ Rows.uptoBulk d := by
  rcases h with ⟨_, rfl⟩ | ⟨es, sp, rfl, e⟩
  · simp
  · have := bulk_len es
    simp only [Rows.uptoBulk]
    omega
theorem bulk_flat : ∀ (es : List (DataW H)) (L : List (List UInt8)), es.length = L.length → (∀ j (h1 : j < es.length) (h2 : j < L.length), es[j] = .nil ∧ L[j] = [] ∨ ∃ e' s', es[j] = .slice e' s' ∧ e'.length = (L[j]).length) → L.flatten.length ≤ Rows.uptoBulkAll es
  | [], [], _, _ => by simp
  | d :: r, l :: L, e, h => by
    have h0 : l.length ≤ Rows.uptoBulk d := bulk_bytes (h 0 (by simp) (by simp))
    have h1 := bulk_flat r L (by simpa using e) (fun j a b => h (j + 1) (by simp; omega) (by simp; omega))
    simp only [List.flatten_cons, List.length_append, Rows.uptoBulkAll]
    omega
  | [], _ :: _, e, _ => by simp at e
  | _ :: _, [], e, _ => by simp at e
end
end Go.Proofs.YtemmdlanidepbaaDoor
