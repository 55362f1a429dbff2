/- Contracts of wire.Number and millpondref01.Number: the form of a number, in a row of the call's own. -/
import Derived.Test.YtemmdlanidepbaaDoorEnc
import Derived.Test.YtemmdlanidepbaaDoorProg
namespace Go.Proofs.YtemmdlanidepbaaDoor
open Go.RowKit

theorem infoU8 : (Tryd.prog.info? 5).map (fun i => (i.zero, i.size, i.bytes)) = some (some (.int .u8 0), 1, 1) := by kernel_rfl

theorem made10 (w : World) : (Instr.makeSlice 28 (.int .i64 0) (.int .i64 10)).run Tryd.prog w = .ok (.slice (some ⟨w.heap.size, 0, none⟩) 0 10) (w.alloc (.cells (Array.replicate 10 (.int .u8 0)) 5)) := by kernel_rfl

/-- a new row of the call's own holds these bytes; nothing else has turned -/
def NewRow (w : World) (l : List UInt8) (e : Ending) (w' : World) : Prop := ∃ g c, e = .returned (.slice (some ⟨g, 0, none⟩) l.length c) ∧ w'.ownsRow w.heap.size 5 1 (.slice (some ⟨g, 0, none⟩) l.length c) l.length (bv l) ∧ Below w.heap.size w w'

theorem own_some {w : World} {base n : Nat} {e : TypeId} {size : Nat} {v : Value} {xs : List Value} (h : w.ownsRow base e size v n xs) (hv : v.ownBlock.isSome) : ∃ g c, v = .slice (some ⟨g, 0, none⟩) n c := by
  rcases h.2 with ⟨rfl, rfl⟩ | ⟨g, cap, cur, rfl, _, _, hc, _⟩
  · simp [Value.ownBlock] at hv
  · exact ⟨_, cap, rfl⟩

theorem step_big {l : List UInt8} {m n k : Nat} (hl : l ++ enc m = enc n ∧ U64 m ∧ m ≤ k) (hm : 127 < m) : (l ++ [UInt8.ofNat (m % 128 + 128)]) ++ enc (m / 128) = enc n ∧ U64 (m / 128) ∧ m / 128 ≤ m / 128 :=
  ⟨by rw [← hl.1, enc_big (n := m) (by omega)]; simp, hl.2.1.le (by omega), Nat.le_refl _⟩

theorem isSome_of {v v' : Value} {w : Nat} (hs : v.ownBlock.isSome = true) (h : v'.ownBlock = v.ownBlock ∨ ∃ g, v'.ownBlock = some g ∧ w ≤ g) : v'.ownBlock.isSome = true := by
  rcases h with h | ⟨g, h, _⟩
  · rw [h]; exact hs
  · rw [h]; rfl

set_option maxRecDepth 100000 in
theorem number_any (n : Nat) (hn : U64 n) (w : World) :
    Calls Tryd.prog 31 #[.int .u64 (n : Int)] w (NewRow w (enc n)) := by
  have hmk := made10
  go_enter Tryd.func31, Tryd.ntmps31
  go_wp2
  have H0 : (w.alloc (.cells (Array.replicate 10 (.int .u8 0)) 5)).ownsRow w.heap.size 5 1 (.slice (some ⟨w.heap.size, 0, none⟩) 0 10) 0 [] := World.ownsRow_made w _ 10 (Nat.le_refl _) (by simp [maxLen]) (by simp)
  have HB0 : Below w.heap.size w (w.alloc (.cells (Array.replicate 10 (.int .u8 0)) 5)) := (Below.refl _ _).alloc (Nat.le_refl _) _
  go_loopg [0, 3] n (fun k i v wr => ∃ (m : Nat) (l : List UInt8), i = .int .u64 (m : Int) ∧ Hid (l ++ enc m = enc n ∧ U64 m ∧ m ≤ k) ∧ wr.ownsRow w.heap.size 5 1 v l.length (bv l) ∧ Below w.heap.size w wr ∧ v.ownBlock.isSome)
  case atStart => exact ⟨n, [], rfl, ⟨rfl, hn, Nat.le_refl _⟩, H0, HB0, rfl⟩
  case round =>
    clear H0 HB0 hmk
    obtain ⟨m, l, rfl, hl, ho, hb, hs⟩ := hrel
    have hll : l.length ≤ 10 := by have h1 := enc_len hn; have h2 := congrArg List.length hl.out.1; simp at h2; omega
    by_cases hm : 127 < m
    · go_wp2_with (first | (at_builtin; refine app_byte rfl _ _ 28 rfl w.heap.size 5 Tryd.underlying28 infoU8 u3 l rfl ho _ (UInt8.ofNat (m % 128 + 128)) ?q rfl (by omega) hb.size ?_; (case q => exact or128 m); intro v' w' ho' hg hv))
      go_roundg (m / 128)
      case measure => have := hl.out.2.2; omega
      case rel => exact ⟨m / 128, _, (by go_num), step_big hl.out hm, ho', Bl.grown hb hg (fun k hk => (ho.lt k hk).1), isSome_of hs hv⟩
    · go_wp2_with (first | (at_builtin; refine app_byte rfl _ _ 28 rfl w.heap.size 5 Tryd.underlying28 infoU8 u3 l rfl ho _ (UInt8.ofNat m) ?q rfl (by omega) hb.size ?_; (case q => exact ofNat_small hm); intro v' w' ho' hg hv))
      go_ret
      obtain ⟨g, c, rfl⟩ := own_some ho' (isSome_of hs hv)
      have e : l ++ [UInt8.ofNat m] = enc n := by rw [← hl.out.1, enc_small (by omega)]
      rw [e] at ho'
      exact ⟨g, c, by rw [← e]; rfl, ho', Bl.grown hb hg (fun k hk => (ho.lt k hk).1)⟩
end Go.Proofs.YtemmdlanidepbaaDoor
