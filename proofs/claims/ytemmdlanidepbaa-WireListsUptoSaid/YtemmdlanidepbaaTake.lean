/- Contract of wire.Take over the law's pair. -/
import Derived.Test.YtemmdlanidepbaaPairs
namespace Go.Proofs.Ytemmdlanidepbaa
open Go.RowKit
set_option linter.unusedSimpArgs false

/-- a list that is read: a new row, and the reader behind it; or refused, and the reader where it was -/
def TakeRead (w : World) (g : Nat) (ad : Addr) (c : Nat) (l : List UInt8) (pos q n : Nat) (e : Ending) (w' : World) : Prop :=
  match many dec2 n (l.drop q) with
  | some (P, m) => ∃ b c', e = .returned (.tuple #[.slice (some ⟨b, 0, none⟩) P.length c', .int .i64 0]) ∧ w'.ownsRow w.heap.size 51 2 (.slice (some ⟨b, 0, none⟩) P.length c') P.length (pv P) ∧ Rdr w' g ad c l (q + m) ∧ w.grownBy w' (some g)
  | none => Rd2 w g ad c l pos (.slice none 0 0) (.int .i64 4) e w'
theorem stop_at {p : Prop} (h : Hid p) : p := h.out
theorem TakeRead.mk_none {w w' : World} {g : Nat} {ad : Addr} {c : Nat} {l : List UInt8} {pos q n : Nat} (hn : many dec2 n (l.drop q) = none) (h : Rdr w' g ad c l pos) (hg : w.grownBy w' (some g)) :
    TakeRead w g ad c l pos q n (.returned (.tuple #[.slice none 0 0, .int .i64 4])) w' := by
  unfold TakeRead
  rw [hn]
  exact ⟨rfl, h, hg⟩
theorem TakeRead.mk_some {w w' : World} {g : Nat} {ad : Addr} {c : Nat} {l : List UInt8} {pos q n p : Nat} {P : List (Nat × Nat)} {v : Value} (hM : Mid dec2 l n q P.length P p) (hn : ¬ P.length < n)
    (ho : w'.ownsRow w.heap.size 51 2 v P.length (pv P)) (hs : v.ownBlock.isSome) (h : Rdr w' g ad c l p) (hg : w.grownBy w' (some g)) :
    TakeRead w g ad c l pos q n (.returned (.tuple #[v, .int .i64 0])) w' := by
  unfold TakeRead
  rw [hM.all hn]
  obtain ⟨b, c', rfl⟩ := own_some ho hs
  have := hM.room
  exact ⟨b, c', rfl, ho, by rw [show q + (p - q) = p by omega]; exact h, hg⟩

theorem fn2_not (w : World) (f : FuncId) : (binOp .eql 56 (.func (.func f) #[] #[]) .nilFunc).run Try.prog w = .ok (.bool false) w := by kernel_rfl

section
variable (w : World) (g : Nat) (ad : Addr) (c : Nat) (l : List UInt8) (pos : Nat) (h : Rdr w g ad c l pos) (hl : l.length ≤ 1073741824)
include h
theorem take2_fail (most e : Int) (p : Nat) (he : (e == 0) = false) (HC : Calls Try.prog 39 #[.pointer (some ⟨g, 0, none⟩), .int .i64 most] w (Rd2 w g ad c l p (.int .i64 0) (.int .i64 e))) :
    Calls Try.prog 29 #[.pointer (some ⟨g, 0, none⟩), .int .i64 most, .func (.func 30) #[] #[]] w (Rd2 w g ad c l pos (.slice none 0 0) (.int .i64 e)) := by
  have HN := Lib.hid HC
  clear HC
  have h0 := h.cell0
  have h1 := h.cell1
  have hf := fn2_not
  go_enter Try.func29, Try.ntmps29
  go_wp2_with fail
  refine (there_yes _ _ _ _ _ h0).mono ?_
  rintro e w' ⟨rfl, rfl⟩
  go_wp2_with fail
  refine HN.out.mono ?_
  rintro e w1 ⟨rfl, hr, hg⟩
  go_wp2_with fail
  refine wp_loop_rounds 1 ?_
  rw [rounds_succ]
  have hb := (Below.refl w1.heap.size w1).alloc (Nat.le_refl _) (.cells #[] 51)
  have hr2 := hr.below hb
  have hg2 := grown_trans hg (grown_of_below hb (some g)) (.inl rfl)
  have g1 := hr2.cell1
  have gf := hr2.free 1
  go_wp2
  go_ret2
  have := hr2.back w hg2 pos h.pos_le
  exact ⟨rfl, this.1, this.2⟩
include hl
set_option maxRecDepth 100000 in
set_option maxHeartbeats 4000000 in
theorem take2_any (most : Int) (hm2 : most ≤ 9223372036854775807) {x k : Nat} (hd : dec 0 0 (l.drop pos) = some (x, k)) (hx : (x : Int) ≤ most) :
    Calls Try.prog 29 #[.pointer (some ⟨g, 0, none⟩), .int .i64 most, .func (.func 30) #[] #[]] w (TakeRead w g ad c l pos (pos + k) x) := by
  have HN := Lib.hid (count_ok _ _ _ _ _ _ h most hm2 hd hx)
  clear hd
  have h0 := h.cell0
  have h1 := h.cell1
  have hp := h.pos_le
  have hf := fn2_not
  go_enter Try.func29, Try.ntmps29
  go_wp2_with fail
  refine (there_yes _ _ _ _ _ h0).mono ?_
  rintro e w' ⟨rfl, rfl⟩
  go_wp2_with fail
  refine HN.out.mono ?_
  rintro e w1 ⟨rfl, hr, hg⟩
  go_wp2_with fail
  have hb := (Below.refl w1.heap.size w1).alloc (Nat.le_refl _) (.cells #[] 51)
  have hr2 := hr.below hb
  have hg2 := grown_trans hg (grown_of_below hb (some g)) (.inl rfl)
  have H0 : (w1.alloc (.cells #[] 51)).ownsRow w.heap.size 51 2 (.slice (some ⟨w1.heap.size, 0, none⟩) 0 0) 0 [] := own_lower (World.ownsRow_made w1 _ 0 (Nat.le_refl _) (by simp [maxLen]) (by simp)) hg.size
  have Hlt : g < w.heap.size := h.lt
  clear hr hg HN h0 h1 hb
  go_loopg [10, 11, 12] x (fun kk ee v i wr => ∃ (j : Nat) (P : List (Nat × Nat)) (p : Nat), i = .int .i64 (j : Int) ∧ Rdr wr g ad c l p ∧ w.grownBy wr (some g) ∧
    (ee = .int .i64 0 ∧ Hid (j + kk = x) ∧ Hid (Mid dec2 l x (pos + k) j P p) ∧ wr.ownsRow w.heap.size 51 2 v P.length (pv P) ∧ v.ownBlock.isSome ∨ ee = .int .i64 4 ∧ Hid (many dec2 x (l.drop (pos + k)) = none)))
  case atStart => exact ⟨0, [], _, rfl, hr2, hg2, .inl ⟨rfl, Nat.zero_add _, Mid.start _ _ _ hr2.pos_le, H0, rfl⟩⟩
  case round =>
    clear H0 hr2 hg2
    obtain ⟨j, P, p, rfl, hr, hg, ⟨rfl, hj, HM, ho, hs⟩ | ⟨rfl, hn⟩⟩ := hrel
    · obtain ⟨vb, vc, rfl⟩ := own_some ho hs
      have hvb := (ho.lt vb rfl).1
      by_cases hlt : j < x
      · go_wp2_with fail
        refine (pair_any _ _ _ _ _ _ (hr.below ((Below.refl wr.heap.size wr).alloc (Nat.le_refl _) _))).mono ?_
        intro e w2 hpost
        cases hd : dec2 (l.drop p) with
        | none =>
          rw [hd] at hpost
          obtain ⟨⟨a, b⟩, q, rfl, hr2, hx⟩ := hpost
          obtain ⟨c0, c1, f0, f1⟩ := pair_cells wr g ad c l p hr hx
          simp only [pairV]
          go_wp2_with (at_builtin; refine stop_at ?_)
          obtain ⟨z0, z1, hr3, hg3⟩ := pair_stored wr g ad c l p hr hx hr2 (.int .u64 (a : Int)) (.int .u64 (b : Int))
          have hsz : ((w2.setCell ⟨wr.heap.size, 0, none⟩ (.int .u64 (a : Int))).setCell ⟨wr.heap.size, 1, none⟩ (.int .u64 (b : Int))).heap.size = w2.heap.size := by simp
          generalize (w2.setCell ⟨wr.heap.size, 0, none⟩ (.int .u64 (a : Int))).setCell ⟨wr.heap.size, 1, none⟩ (.int .u64 (b : Int)) = W3 at *
          clear hx c0 c1 f0 f1 hr2 z0 z1
          have ho3 := kept_by ho hg3 (fun k hk => by injection hk with hk; subst hk; show vb ≠ g; omega)
          have hg4 := grown_trans hg hg3 (.inl rfl)
          have hPl : P.length + 1 ≤ 8796093022208 := by have h1 := HM.out.room; have h2 := HM.out.fits; have h3 := HM.out.len; omega
          refine Lib.hid ?_
          refine app_pair rfl _ _ rfl w.heap.size _ P rfl ho3 (a, b) (by rw [hsz]; rfl) hPl hg4.size ?_
          intro v' w' ho' hg' hv'
          go_wp2
          go_roundg 0
          case measure => have := hj.out; omega
          case rel => exact ⟨j + 1, P, _, (by go_num), h.off hr3 hg' hvb, grown_trans hg4 hg' (.inr ⟨_, rfl, hvb⟩), .inr ⟨rfl, HM.out.stop hlt hd⟩⟩
        | some r =>
          obtain ⟨⟨a, b⟩, m⟩ := r
          rw [hd] at hpost
          obtain ⟨⟨rfl, hr2, hx⟩, hm⟩ := hpost
          obtain ⟨c0, c1, f0, f1⟩ := pair_cells wr g ad c l p hr hx
          simp only [pairV]
          go_wp2_with (at_builtin; refine stop_at ?_)
          obtain ⟨z0, z1, hr3, hg3⟩ := pair_stored wr g ad c l p hr hx hr2 (.int .u64 (a : Int)) (.int .u64 (b : Int))
          have hsz : ((w2.setCell ⟨wr.heap.size, 0, none⟩ (.int .u64 (a : Int))).setCell ⟨wr.heap.size, 1, none⟩ (.int .u64 (b : Int))).heap.size = w2.heap.size := by simp
          generalize (w2.setCell ⟨wr.heap.size, 0, none⟩ (.int .u64 (a : Int))).setCell ⟨wr.heap.size, 1, none⟩ (.int .u64 (b : Int)) = W3 at *
          clear hx c0 c1 f0 f1 hr2 z0 z1
          have ho3 := kept_by ho hg3 (fun k hk => by injection hk with hk; subst hk; show vb ≠ g; omega)
          have hg4 := grown_trans hg hg3 (.inl rfl)
          have hPl : P.length + 1 ≤ 8796093022208 := by have h1 := HM.out.room; have h2 := HM.out.fits; have h3 := HM.out.len; omega
          refine Lib.hid ?_
          refine app_pair rfl _ _ rfl w.heap.size _ P rfl ho3 (a, b) (by rw [hsz]; rfl) hPl hg4.size ?_
          intro v' w' ho' hg' hv'
          go_wp2
          go_roundg (gk - 1)
          case measure => have := hj.out; omega
          case rel => exact ⟨j + 1, P ++ [(a, b)], _, (by go_num), h.off hr3 hg' hvb, grown_trans hg4 hg' (.inr ⟨_, rfl, hvb⟩), .inl ⟨rfl, (by have := hj.out; show _ = _; omega), HM.out.next hlt hd hr3.pos_le hm, ho', isSome_of hs hv'⟩⟩
      · go_wp2
        go_ret2
        exact TakeRead.mk_some (by rw [HM.out.len]; exact HM.out) (by rw [HM.out.len]; exact hlt) ho hs hr hg
    · have g1 := hr.cell1
      have gf := hr.free 1
      go_wp2
      go_ret2
      have := hr.back w hg pos h.pos_le
      exact TakeRead.mk_none hn.out this.1 this.2
end
end Go.Proofs.Ytemmdlanidepbaa
