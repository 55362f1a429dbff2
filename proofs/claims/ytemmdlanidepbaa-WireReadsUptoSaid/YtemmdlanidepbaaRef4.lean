/- Contract of millpondref01.Reader's Numbers. -/
import Derived.Test.YtemmdlanidepbaaTake1
namespace Go.Proofs.Ytemmdlanidepbaa
open Go.RowKit
set_option linter.unusedSimpArgs false

/-- a block that came later has turned -/
theorem RRdr.off {w w2 w3 : World} {g : Nat} {A : Option Addr} {c : Nat} {l : List UInt8} {p0 p k : Nat} (h0 : RRdr w g A c l p0) (h : RRdr w2 g A c l p) (hg : w2.grownBy w3 (some k)) (hk : w.heap.size ≤ k) : RRdr w3 g A c l p := by
  have hlt := h0.lt
  refine ⟨(hg.block g h.lt (fun e => by injection e with e; omega)).trans h.blk, fun j u hj => ?_, h.pos_le, h.len, h.cap, h.apart⟩
  obtain ⟨ad', e, hc⟩ := h.bytes j u hj
  obtain ⟨ad2, e2, hc2⟩ := h0.bytes j u hj
  have hb := World.block_lt_of_cell? w _ hc2
  rw [add_block] at hb
  rw [e] at e2
  injection e2 with e2
  subst e2
  exact ⟨_, e, hg.cell hc (fun e => by rw [add_block] at e; injection e with e; omega)⟩
/-- what the ownBlock is, if any -/
theorem fresh_of {w w2 : World} {base n : Nat} {e : TypeId} {size : Nat} {v : Value} {xs : List Value} (ho : w2.ownsRow base e size v n xs) (hb : w.heap.size ≤ base) {r : Option Nat} : v.ownBlock = r ∨ ∃ g, v.ownBlock = some g ∧ w.heap.size ≤ g ∨ v.ownBlock = none := by
  cases hv : v.ownBlock with
  | none => exact .inr ⟨0, .inr rfl⟩
  | some k => exact .inr ⟨k, .inl ⟨rfl, Nat.le_trans hb (ho.lt k hv).1⟩⟩
theorem RRdr.offO {w w2 w3 : World} {g : Nat} {A : Option Addr} {c : Nat} {l : List UInt8} {p0 p : Nat} {r : Option Nat} (h0 : RRdr w g A c l p0) (h : RRdr w2 g A c l p) (hg : w2.grownBy w3 r) (hk : ∀ k, r = some k → w.heap.size ≤ k) : RRdr w3 g A c l p := by
  cases r with
  | none => exact h.move hg (by simp) (by simp)
  | some k => exact h0.off h hg (hk k rfl)
theorem grown_fresh {w w1 w2 : World} {g : Nat} {r : Option Nat} (h : w.grownBy w1 (some g)) (k : w1.grownBy w2 r) (hk : ∀ k, r = some k → w.heap.size ≤ k) : w.grownBy w2 (some g) := by
  cases r with
  | none => exact grown_trans h (grown_of_below (below_of_grown k) (some g)) (.inl rfl)
  | some q => exact grown_trans h k (.inr ⟨q, rfl, hk q rfl⟩)

/-- a list that is read by the document's reader -/
def RNumsRead (w : World) (g : Nat) (A : Option Addr) (c : Nat) (l : List UInt8) (pos q n : Nat) (e : Ending) (w' : World) : Prop :=
  match many dec1 n (l.drop q) with
  | some (P, m) => ∃ v, e = .returned (.tuple #[v, .int .i64 0]) ∧ w'.ownsRow w.heap.size 22 1 v P.length (nv P) ∧ RRdr w' g A c l (q + m) ∧ w.grownBy w' (some g)
  | none => RRd2 w g A c l pos (.slice none 0 0) (.int .i64 4) e w'
theorem RNumsRead.mk_none {w w' : World} {g : Nat} {A : Option Addr} {c : Nat} {l : List UInt8} {pos q n : Nat} (hn : many dec1 n (l.drop q) = none) (h : RRdr w' g A c l pos) (hg : w.grownBy w' (some g)) :
    RNumsRead w g A c l pos q n (.returned (.tuple #[.slice none 0 0, .int .i64 4])) w' := by
  unfold RNumsRead
  rw [hn]
  exact ⟨rfl, h, hg⟩
theorem RNumsRead.mk_some {w w' : World} {g : Nat} {A : Option Addr} {c : Nat} {l : List UInt8} {pos q n p : Nat} {P : List Nat} {v : Value} (hM : Mid dec1 l n q P.length P p) (hn : ¬ P.length < n)
    (ho : w'.ownsRow w.heap.size 22 1 v P.length (nv P)) (h : RRdr w' g A c l p) (hg : w.grownBy w' (some g)) :
    RNumsRead w g A c l pos q n (.returned (.tuple #[v, .int .i64 0])) w' := by
  unfold RNumsRead
  rw [hM.all hn]
  have := hM.room
  exact ⟨v, rfl, ho, by rw [show q + (p - q) = p by omega]; exact h, hg⟩

section
variable (w : World) (g : Nat) (A : Option Addr) (c : Nat) (l : List UInt8) (pos : Nat) (h : RRdr w g A c l pos) (hl : l.length ≤ 1073741824)
include h
theorem rrNums_no (most : Int) (hd : dec 0 0 (l.drop pos) = none) :
    Calls Try.prog 45 #[.pointer (some ⟨g, 0, none⟩), .int .i64 most] w (RRd2 w g A c l pos (.slice none 0 0) (.int .i64 4)) := by
  have HN := Lib.hid (rrNumber_no _ _ _ _ _ _ h hd)
  clear hd
  have h1 := h.cell1
  go_enter Try.func45, Try.ntmps45
  go_wp2_with fail
  refine HN.out.mono ?_
  rintro e w1 ⟨rfl, hr, hg⟩
  have g1 := hr.cell1
  have gf := hr.free 1
  go_wp2_with fail
  refine wp_loop_rounds 1 ?_
  rw [rounds_succ]
  go_wp2
  go_ret2
  have := hr.back w hg pos h.pos_le
  exact ⟨rfl, this.1, this.2⟩
theorem rrNums_long (most : Int) (hm : 0 ≤ most) (hm2 : most ≤ 9223372036854775807) {x k : Nat} (hd : dec 0 0 (l.drop pos) = some (x, k)) (hx : most < (x : Int)) :
    Calls Try.prog 45 #[.pointer (some ⟨g, 0, none⟩), .int .i64 most] w (RRd2 w g A c l pos (.slice none 0 0) (.int .i64 3)) := by
  have HN := Lib.hid (rrNumber_ok _ _ _ _ _ _ h hd)
  clear hd
  have h1 := h.cell1
  have hw : IntKind.u64.wrap most = most := by rw [IntKind.wrap_u64]; omega
  go_enter Try.func45, Try.ntmps45
  go_wp2_with fail
  refine HN.out.mono ?_
  rintro e w1 ⟨rfl, hr, hg⟩
  have g1 := hr.cell1
  have gf := hr.free 1
  go_wp2_with fail
  refine wp_loop_rounds 1 ?_
  rw [rounds_succ]
  go_wp2
  go_ret2
  have := hr.back w hg pos h.pos_le
  exact ⟨rfl, this.1, this.2⟩
include hl
set_option maxRecDepth 100000 in
set_option maxHeartbeats 4000000 in
theorem rrNums_any (most : Int) (hm2 : most ≤ 9223372036854775807) {x k : Nat} (hd : dec 0 0 (l.drop pos) = some (x, k)) (hx : (x : Int) ≤ most) :
    Calls Try.prog 45 #[.pointer (some ⟨g, 0, none⟩), .int .i64 most] w (RNumsRead w g A c l pos (pos + k) x) := by
  have HN := Lib.hid (rrNumber_ok _ _ _ _ _ _ h hd)
  clear hd
  have h1 := h.cell1
  have hp := h.pos_le
  have hm : 0 ≤ most := by omega
  have hw : IntKind.u64.wrap most = most := by rw [IntKind.wrap_u64]; omega
  have hxm : decide (most < (x : Int)) = false := by simp; omega
  go_enter Try.func45, Try.ntmps45
  go_wp2_with fail
  refine HN.out.mono ?_
  rintro e w1 ⟨rfl, hr, hg⟩
  go_wp2_with fail
  have H0 : w1.ownsRow w.heap.size 22 1 (.slice none 0 0) 0 [] := World.ownsRow_nil _ _ _ _
  have Hlt : g < w.heap.size := h.lt
  clear HN h1
  go_loopg [8, 9, 10] x (fun kk ee v i wr => ∃ (j : Nat) (P : List Nat) (p : Nat), i = .int .u64 (j : Int) ∧ RRdr wr g A c l p ∧ w.grownBy wr (some g) ∧
    (ee = .int .i64 0 ∧ Hid (j + kk = x) ∧ Hid (Mid dec1 l x (pos + k) j P p) ∧ wr.ownsRow w.heap.size 22 1 v P.length (nv P) ∨ ee = .int .i64 4 ∧ Hid (many dec1 x (l.drop (pos + k)) = none)))
  case atStart => exact ⟨0, [], _, rfl, hr, hg, .inl ⟨rfl, Nat.zero_add _, Mid.start _ _ _ hr.pos_le, H0⟩⟩
  case round =>
    clear H0 hr hg
    obtain ⟨j, P, p, rfl, hr, hg, ⟨rfl, hj, HM, ho⟩ | ⟨rfl, hn⟩⟩ := hrel
    · have hvb : ∀ k, u9.ownBlock = some k → w.heap.size ≤ k := fun k hk => (ho.lt k hk).1
      have HV := Lib.hid hvb
      clear hvb
      have hPl : P.length + 1 ≤ 8796093022208 := by have h1 := HM.out.room; have h2 := HM.out.fits; have h3 := HM.out.len; omega
      by_cases hlt : j < x
      · have hjl : j ≤ 1073741824 := by have h1 := HM.out.room; have h2 := HM.out.fits; omega
        go_wp2_with fail
        cases hd : dec 0 0 (l.drop p) with
        | none =>
          refine (rrNumber_no _ _ _ _ _ _ hr hd).mono ?_
          rintro e w2 ⟨rfl, hr2, hx⟩
          have ho3 := kept_by ho hx (fun k hk => by have := HV.out k hk; omega)
          have hg4 := grown_trans hg hx (.inl rfl)
          go_wp2_with (at_builtin; refine stop_to ?_)
          refine Lib.hid ?_
          refine app_nat rfl _ _ rfl w.heap.size _ P rfl ho3 0 0 rfl rfl hPl hg4.size ?_
          intro v' w' ho' hg' hv'
          go_wp2
          go_roundg 0
          case measure => have := hj.out; omega
          case rel => exact ⟨j + 1, P, _, (by go_num), h.offO hr2 hg' HV.out, grown_fresh hg4 hg' HV.out, .inr ⟨rfl, HM.out.stop hlt hd⟩⟩
        | some r =>
          obtain ⟨a, m⟩ := r
          have hm := (dec_fits _ _ _ (by omega) (by simp) _ _ hd).1
          refine (rrNumber_ok _ _ _ _ _ _ hr hd).mono ?_
          rintro e w2 ⟨rfl, hr2, hx⟩
          have ho3 := kept_by ho hx (fun k hk => by have := HV.out k hk; omega)
          have hg4 := grown_trans hg hx (.inl rfl)
          go_wp2_with (at_builtin; refine stop_to ?_)
          refine Lib.hid ?_
          refine app_nat rfl _ _ rfl w.heap.size _ P rfl ho3 _ a rfl rfl hPl hg4.size ?_
          intro v' w' ho' hg' hv'
          go_wp2
          go_roundg (gk - 1)
          case measure => have := hj.out; omega
          case rel => exact ⟨j + 1, P ++ [a], _, (by go_num), h.offO hr2 hg' HV.out, grown_fresh hg4 hg' HV.out, .inl ⟨rfl, (by have := hj.out; show _ = _; omega), HM.out.next hlt hd hr2.pos_le hm, ho'⟩⟩
      · go_wp2
        go_ret2
        exact RNumsRead.mk_some (by rw [HM.out.len]; exact HM.out) (by rw [HM.out.len]; exact hlt) ho hr hg
    · have g1 := hr.cell1
      have gf := hr.free 1
      go_wp2
      go_ret2
      have := hr.back w hg pos h.pos_le
      exact RNumsRead.mk_none hn.out this.1 this.2
end
end Go.Proofs.Ytemmdlanidepbaa
