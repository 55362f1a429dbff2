/- Contracts of message.kinds, of, Fields, Name, Master. -/
import Derived.Test.YtemmdlanidepbaaDoorWr
import Derived.Laws.Rows
import Derived.Laws.Tables
namespace Go.Proofs.YtemmdlanidepbaaDoor
open Go.RowKit
set_option linter.unusedSimpArgs false

/-- numbers as cells of an int -/
def iv (xs : List Int) : List Value := xs.map fun n : Int => .int .i64 n
theorem iv_len (P : List Int) : (iv P).length = P.length := by simp [iv]
theorem iv_app (P Q : List Int) : iv (P ++ Q) = iv P ++ iv Q := by simp [iv]
theorem iv_one (P : List Int) : ∀ u ∈ iv P, u.oneCell' = true := by
  intro u hu
  simp only [iv, List.mem_map] at hu
  obtain ⟨p, _, rfl⟩ := hu
  rfl
theorem infoFld : (Tryd.prog.info? 73).map (fun i => (i.zero, i.size, i.bytes)) = some (some (.int .i64 0), 1, 8) := by kernel_rfl
/-- a literal of ints -/
theorem at_ints (w : World) (t : TypeId) (l : List Int) (cs : Array Value) (h : cs.toList = iv l) : At (w.alloc (.cells cs t)) (some ⟨w.heap.size, 0, none⟩) (iv l) := fun j u hj => by
  refine ⟨_, rfl, ?_⟩
  rw [add0, World.cell?_alloc_new, ← Array.getElem?_toList, h]
  exact hj

/-- what a kind names -/
def fieldsOf (k : Int) : List Int :=
  if k = 1 then [1, 3] else if k = 2 then [1, 2, 3] else if k = 3 then [1, 2, 4] else if k = 4 then [1, 2, 4] else if k = 5 then [1, 2] else if k = 6 then [1, 2] else if k = 7 then [1, 2, 3, 5, 6, 7]
  else if k = 8 then [1, 2] else if k = 9 then [1, 2] else if k = 10 then [1, 2, 5] else if k = 11 then [1] else if k = 12 then [1, 2] else if k = 13 then [1, 5] else []
def nameOf (k : Int) : ByteArray :=
  if k = 1 then ⟨#[119, 97, 110, 116]⟩ else if k = 2 then ⟨#[103, 114, 97, 110, 116]⟩ else if k = 3 then ⟨#[115, 104, 97, 114, 101]⟩ else if k = 4 then ⟨#[121, 105, 101, 108, 100]⟩ else if k = 5 then ⟨#[100, 114, 111, 112]⟩
  else if k = 6 then ⟨#[103, 111, 110, 101]⟩ else if k = 7 then ⟨#[105, 109, 97, 103, 101]⟩ else if k = 8 then ⟨#[103, 111, 116]⟩ else if k = 9 then ⟨#[114, 101, 108, 101, 97, 115, 101]⟩ else if k = 10 then ⟨#[119, 114, 111, 116, 101]⟩
  else if k = 11 then ⟨#[99, 108, 101, 97, 110]⟩ else if k = 12 then ⟨#[102, 108, 117, 115, 104]⟩ else if k = 13 then ⟨#[100, 105, 115, 99, 97, 114, 100]⟩ else ⟨#[]⟩
def masterOf (k : Int) : Bool := decide (k = 2 ∨ k = 3 ∨ k = 4 ∨ k = 5 ∨ k = 12 ∨ k = 13)

/-- a new row of fields -/
def NewFlds (w : World) (l : List Int) (e : Ending) (w' : World) : Prop :=
  ∃ g c, e = .returned (.slice (some ⟨g, 0, none⟩) l.length c) ∧ w'.ownsRow w.heap.size 73 1 (.slice (some ⟨g, 0, none⟩) l.length c) l.length (iv l) ∧ Below w.heap.size w w'

theorem l_any (A : Option Addr) (c : Nat) (l : List Int) (w : World) (hA : At w A (iv l)) (hl : l.length ≤ 10) :
    Calls Tryd.prog 81 #[.slice A l.length c] w (NewFlds w (1 :: l)) := by
  go_enter Tryd.func81, Tryd.ntmps81
  have H0 : (w.alloc (.cells #[.int .i64 1] 73)).ownsRow w.heap.size 73 1 (.slice (some ⟨w.heap.size, 0, none⟩) 1 1) 1 (iv [1]) := World.ownsRow_lit w #[.int .i64 1] 1 (Nat.le_refl _) (by simp [maxLen]) rfl
  have HB0 : Below w.heap.size w (w.alloc (.cells #[.int .i64 1] 73)) := (Below.refl _ _).alloc (Nat.le_refl _) _
  go_wp2_with (at_builtin; refine app_rows _ rfl _ _ 45 rfl w.heap.size 73 (.int .i64 0) 1 8 Tryd.underlying45 infoFld rfl (by omega) _ 1 (iv [1]) rfl H0 A l.length c (iv l) rfl (by simp [iv_len]) (hA.mono HB0) (iv_one _) (by simp only [maxLen]; omega) (by omega) HB0.size ?_; intro v' w' ho hg hv)
  go_ret
  rw [← iv_app, Nat.add_comm] at ho
  obtain ⟨g, cc, rfl⟩ := own_pos ho (by omega)
  exact ⟨g, cc, rfl, ho, Bl.grown HB0 hg (fun k hk => by injection hk with hk; subst hk; exact Nat.le_refl _)⟩

/-- rows of fields -/
def Flds (w : World) (base : Nat) (L : List (Nat × Nat × List Int)) : Prop := ∀ x ∈ L, w.ownsRow base 73 1 (.slice (some ⟨x.1, 0, none⟩) x.2.2.length x.2.1) x.2.2.length (iv x.2.2)
theorem Flds.nil (w : World) (base : Nat) : Flds w base [] := fun _ h => by cases h
theorem Flds.next {w w1 : World} {base : Nat} {L : List (Nat × Nat × List Int)} {g c : Nat} {l : List Int} (h : Flds w base L) (hb : Below w.heap.size w w1) (hs : base ≤ w.heap.size)
    (ho : w1.ownsRow w.heap.size 73 1 (.slice (some ⟨g, 0, none⟩) l.length c) l.length (iv l)) : Flds w1 base ((g, c, l) :: L) := by
  intro x hx
  rcases List.mem_cons.1 hx with rfl | hx
  · exact own_lower ho hs
  · exact own_below (h x hx) hb
theorem Flds.below {w w1 : World} {base : Nat} {L : List (Nat × Nat × List Int)} (h : Flds w base L) (hb : Below w.heap.size w w1) : Flds w1 base L := fun x hx => own_below (h x hx) hb
theorem Flds.keep {w w1 : World} {base : Nat} {L : List (Nat × Nat × List Int)} {g : Nat} (h : Flds w base L) (hg : w.grownBy w1 (some g)) (hlt : g < base) : Flds w1 base L := fun x hx => by
  refine (h x hx).kept hg (.inr fun e => ?_)
  have := ((h x hx).lt x.1 rfl).1
  injection e with e
  have e' : x.1 = g := e
  omega
end Go.Proofs.YtemmdlanidepbaaDoor
