/- The list of names; the contract of the iterator that message.Kinds hands back. -/
import Derived.Test.YtemmdlanidepbaaDoorKd1
namespace Go.Proofs.YtemmdlanidepbaaDoor
open Go.RowKit Go.Shelf
set_option linter.unusedSimpArgs false
set_option maxRecDepth 100000
attribute [local go_sem] Oper.semAt_some

/-- the kinds, and their names -/
def kn (i : Nat) : Int × ByteArray := ((i : Int) + 1, nameOf ((i : Int) + 1))
def kup (k : Nat) : List (Int × ByteArray) := (List.range k).map kn
theorem kup_succ (k : Nat) : kup (k + 1) = kup k ++ [kn k] := by simp [kup, List.range_succ]
theorem kup_len (k : Nat) : (kup k).length = k := by simp [kup]
abbrev encK (p : Int × ByteArray) : Array Value := #[.int .i64 p.1, .string p.2]
/-- the names' cells -/
def nmc : Array Value := ((List.range 13).map fun i : Nat => Value.string (nameOf ((i : Int) + 1))).toArray
theorem nmc_get (i : Nat) (h : i < 13) : nmc[i]? = some (.string (nameOf ((i : Int) + 1))) := by simp [nmc, h]
theorem nmc_eq : (#[.string ⟨#[119, 97, 110, 116]⟩, .string ⟨#[103, 114, 97, 110, 116]⟩, .string ⟨#[115, 104, 97, 114, 101]⟩, .string ⟨#[121, 105, 101, 108, 100]⟩, .string ⟨#[100, 114, 111, 112]⟩, .string ⟨#[103, 111, 110, 101]⟩, .string ⟨#[105, 109, 97, 103, 101]⟩, .string ⟨#[103, 111, 116]⟩, .string ⟨#[114, 101, 108, 101, 97, 115, 101]⟩, .string ⟨#[119, 114, 111, 116, 101]⟩, .string ⟨#[99, 108, 101, 97, 110]⟩, .string ⟨#[102, 108, 117, 115, 104]⟩, .string ⟨#[100, 105, 115, 99, 97, 114, 100]⟩] : Array Value) = nmc := by kernel_rfl

theorem names18_any (w : World) : Calls Tryd.prog 17 #[] w (fun e w' => e = .returned (.slice (some ⟨w.heap.size, 0, none⟩) 13 13) ∧ w' = w.alloc (.cells nmc 9)) := by
  have HN := Lib.hid nmc_eq
  go_enter Tryd.func17, Tryd.ntmps17
  go_wp2_with fail
  go_ret
  exact ⟨rfl, by rw [HN.out]⟩

/-- what the kinds' cells hold -/
def KIx (cs : Array Value) : Prop := (∀ u : World, (Instr.index 105 (.agg cs) (.int .i64 0)).run Tryd.prog u = .ok (.agg #[.string ⟨#[]⟩, .bool false, .slice none 0 0]) u) ∧
  ∀ k : Int, 1 ≤ k → k ≤ 13 → ∃ A n c, ∀ u : World, (Instr.index 105 (.agg cs) (.int .i64 k)).run Tryd.prog u = .ok (.agg #[.string (nameOf k), .bool (masterOf k), .slice A n c]) u
theorem kix_of (g1 c1 g2 c2 g3 c3 g4 c4 g5 c5 g6 c6 g7 c7 g8 c8 g9 c9 g10 c10 g11 c11 g12 c12 g13 c13 : Nat) : KIx (kcells g1 c1 g2 c2 g3 c3 g4 c4 g5 c5 g6 c6 g7 c7 g8 c8 g9 c9 g10 c10 g11 c11 g12 c12 g13 c13) :=
  ⟨fun u => by kernel_rfl, fun k h1 h2 => by
    obtain ⟨g, c, _, h⟩ := kidx k h1 h2 g1 c1 g2 c2 g3 c3 g4 c4 g5 c5 g6 c6 g7 c7 g8 c8 g9 c9 g10 c10 g11 c11 g12 c12 g13 c13
    exact ⟨_, _, _, h⟩⟩
set_option maxHeartbeats 2000000 in
theorem kinds1_in (n : Nat) (hn : 1 ≤ n) (l : Nat) (J Jx : List (Int × ByteArray) → World → Prop)
    (hY : ∀ pre x W1, J pre W1 → pre.length < 13 → YieldAt Fence.wide (n - 1) Tryd.prog l (encK x) W1 fun e W' =>
      (e = .returned (.bool true) ∧ J (pre ++ [x]) W' ∧ KeepsWalks W1 W') ∨ (e = .returned (.bool false) ∧ Jx (pre ++ [x]) W'))
    (W : World) (hJ : AbidesFrom W.heap.size J) (h0 : J [] W) :
    CallsIn Fence.wide n Tryd.prog 63 #[.func (.yield l) #[] #[]] W fun e W' => (∃ v, e = .returned v) ∧
      ((∃ xs, xs = kup 13 ∧ J xs W') ∨ (∃ pre, (∃ k, k ≤ 13 ∧ pre = kup k) ∧ Jx pre W')) := by
  refine callsIn_of_wp Tryd.func63 rfl trivial ?_ rfl
  simp only [Tryd.ntmps63, List.size_toArray, List.length_cons, List.length_nil, Nat.reduceAdd, Nat.reduceSub, Array.replicate_succ, Array.replicate_zero, List.push_toArray, List.append_toArray, List.nil_append, List.cons_append]
  gi_wp2_with (refine ⟨trivial, ?_⟩; gi_at_call 64; refine (callsIn_wide.2 (kinds_any _)).mono ?_; rintro e w1 ⟨g1, c1, g2, c2, g3, c3, g4, c4, g5, c5, g6, c6, g7, c7, g8, c8, g9, c9, g10, c10, g11, c11, g12, c12, g13, c13, rfl, _, hb⟩)
  have HK := kix_of g1 c1 g2 c2 g3 c3 g4 c4 g5 c5 g6 c6 g7 c7 g8 c8 g9 c9 g10 c10 g11 c11 g12 c12 g13 c13
  generalize kcells g1 c1 g2 c2 g3 c3 g4 c4 g5 c5 g6 c6 g7 c7 g8 c8 g9 c9 g10 c10 g11 c11 g12 c12 g13 c13 = cs at *
  have h1 : J [] w1 := hJ _ _ _ none h0 (grown_of_below hb none) (by simp)
  clear h0 hb
  gi_loopw [5] (fun i wr => ∃ k : Nat, k ≤ 14 ∧ i = .int .i64 k ∧ J (kup (k - 1)) wr) (fun i _ => 14 - (intOf i).toNat)
  case atStart => exact ⟨0, by omega, rfl, h1⟩
  case round =>
    obtain ⟨k, hk, rfl, hJs⟩ := hrel
    by_cases hlt : k = 14
    · subst hlt
      gi_wp2
      go_end0
      exact ⟨⟨_, rfl⟩, .inl ⟨_, rfl, hJs⟩⟩
    · have hlt : k < 14 := by omega
      by_cases hz : k = 0
      · subst hz
        have hi := HK.1
        gi_wp2
        refine ⟨fun _ h => (by cases h), ?_⟩
        gi_wp2
        go_roundw
        case rel => exact ⟨1, by omega, rfl, hJ _ _ _ none hJs (World.grownBy_alloc _ _ _) (by simp)⟩
        case measure => simp [intOf]
      · obtain ⟨A, nn, cc, hi⟩ := HK.2 k (by omega) (by omega)
        have hJ2 := hJ _ _ _ none hJs (World.grownBy_alloc wr (.cells #[.string (nameOf k), .bool (masterOf k), .slice A nn cc] 102) none) (by simp)
        obtain ⟨fn, tmps, assign, body, hy, hR⟩ := hY _ (kn (k - 1)) _ hJ2 (by rw [kup_len]; omega)
        have hk1 : (((k - 1 : Nat) : Int) + 1) = (k : Int) := by omega
        have hk0 : (0 : Int) < (k : Int) := by omega
        rw [show encK (kn (k - 1)) = #[.int .i64 (k : Int), .string (nameOf k)] by simp only [encK, kn, hk1]] at hy
        clear hz hk1
        gi_wp2
        refine hR.mono ?_
        have hkk : kup (k - 1) ++ [kn (k - 1)] = kup k := by
          have := kup_succ (k - 1)
          rw [show k - 1 + 1 = k by omega] at this
          exact this.symm
        rw [hkk]
        clear hkk
        rintro e W3 (⟨rfl, hJ3, _⟩ | ⟨rfl, hJx3⟩)
        · gi_wp2
          go_roundw
          case rel => exact ⟨k + 1, by omega, by simp, hJ3⟩
          case measure => simp [intOf]; omega
        · gi_wp2
          refine bodyPost_ret (results_none rfl _ _ _) rfl ?_
          exact ⟨⟨_, rfl⟩, .inr ⟨_, ⟨k, by omega, rfl⟩, hJx3⟩⟩
theorem kinds_stops (n : Nat) (hn : 1 ≤ n) (w : World) : SeqStopsA Fence.wide n Tryd.prog 63 #[] encK (fun xs => xs = kup 13) (fun pre => ∃ k, k ≤ 13 ∧ pre = kup k) 13 w :=
  fun l J Jx W _ hJ _ hY h0 => kinds1_in n hn l J Jx hY W hJ h0
end Go.Proofs.YtemmdlanidepbaaDoor
