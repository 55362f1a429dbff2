/- The pool's Victim behind its range: the hand goes round. Printed by gen_r2.py from r2.tpl. -/
import Derived.Test.YtjbjfpbhacpeiaaR1
import Derived.Test.YtjbjfpbhacpeiaaP8
import Derived.WalkMore
namespace Go.Proofs.Ytjbjfpbhacpeiaa
open Go.RowKit Go.Shelf
set_option linter.unusedSimpArgs false
set_option linter.unusedVariables false
set_option maxRecDepth 100000
attribute [local go_sem] Oper.semAt_some

def inScope : Code → Code
  | .scope c => c
  | c => c
def tailOf : Nat → Code → Code
  | 0, c => c
  | n + 1, .seq _ b => tailOf n b
  | _ + 1, c => c
noncomputable def vtail : Code := tailOf 2 (inScope (tailOf 1 (Try.f17.body.getD .skip)))

section
variable {w : World} {b m : Nat} {K : Int} {S : PS}
theorem PoolAt.turn (h : PoolAt w b m S) (hS : S.Ok K) (k : Nat) : PoolAt (w.setCell ⟨b, 1682, none⟩ (.int .i64 (k : Int))) b m { S with hand := k } := by
  refine ⟨?_, ?_⟩
  · have := h.cells.set 1682 (.int .i64 (k : Int))
    rwa [plist_hand hS m k] at this
  · obtain ⟨D, hD, hm⟩ := h.map
    exact ⟨D, owns_kept hD (setCell_ex (T := fun k => k = b) 1682 _ w rfl) h.ne, hm⟩
theorem PS.Ok.turn (h : S.Ok K) {k : Nat} (hk : k < S.s.length) : PS.Ok K { S with hand := k } := ⟨h.pos, h.len, hk, h.live, h.uniq⟩
end
/-- how the hand's walk ends -/
structure Gone (W : World) (b m : Nat) (r : Int × PS) (W' : World) : Prop where
  pool : PoolAt W' b m r.2
  ex : Ex (fun k => k = b) W W'
structure VPost (W : World) (R : World → Prop) (p : Int) (t : Bool) (ds : List Deferred) (e : Exit) (a' : Act) (W' : World) : Prop where
  e : e = .ret
  t2 : a'.tmps.getD 2 undef = .int .i64 p
  t3 : a'.tmps.getD 3 undef = .bool t
  ds : a'.defers = ds
  w : R W'
set_option maxHeartbeats 8000000 in
theorem victim_none (W : World) (b1 b4 : Nat) (h4 : W.cell? ⟨b4, 0, none⟩ = some (.bool false)) (u0 u2 u3 u5 u6 u7 u8 u9 u10 u11 u12 u13 u14 u15 u16 u17 u18 u19 u20 u21 u22 u23 u24 u25 u26 u27 u28 u29 u30 u31 u32 u33 u34 u35 u36 u37 u38 u39 u40 u41 u42 u43 u44 u45 u46 u47 u48 u49 u50 u51 u52 u53 u54 u55 u56 u57 u58 u59 u60 u61 u62 u63 u64 u65 u66 : Value) (ds : List Deferred) :
    vtail.wp Try.prog (VPost W (fun W' => W = W') 0 false ds) { tmps := (u0 :: .pointer (some ⟨b1, 0, none⟩) :: u2 :: u3 :: .pointer (some ⟨b4, 0, none⟩) :: u5 :: u6 :: u7 :: u8 :: u9 :: u10 :: u11 :: u12 :: u13 :: u14 :: u15 :: u16 :: u17 :: u18 :: u19 :: u20 :: u21 :: u22 :: u23 :: u24 :: u25 :: u26 :: u27 :: u28 :: u29 :: u30 :: u31 :: u32 :: u33 :: u34 :: u35 :: u36 :: u37 :: u38 :: u39 :: u40 :: u41 :: u42 :: u43 :: u44 :: u45 :: u46 :: u47 :: u48 :: u49 :: u50 :: u51 :: u52 :: u53 :: u54 :: u55 :: u56 :: u57 :: u58 :: u59 :: u60 :: u61 :: u62 :: u63 :: u64 :: u65 :: u66 :: []).toArray, defers := ds } W := by
  obtain ⟨Q, hQ⟩ : ∃ Q, Q = VPost W (fun W' => W = W') 0 false ds := ⟨_, rfl⟩
  rw [← hQ]
  conv => arg 2; whnf
  go_wp2_with fail
  rw [hQ]
  exact ⟨rfl, rfl, rfl, rfl, rfl⟩
set_option maxHeartbeats 8000000 in
theorem victim_some (W : World) (b1 b4 b m : Nat) {Kb : Int} {S : PS} (h : PoolAt W b m S) (hS : S.Ok Kb) (h4 : W.cell? ⟨b4, 0, none⟩ = some (.bool true)) (h1 : W.cell? ⟨b1, 0, none⟩ = some (.pointer (some ⟨b, 0, none⟩))) (h1b : b1 ≠ b) (N : Nat) (r : Int × PS) (hr : clock N S = some r)
    (u0 u2 u3 u5 u6 u7 u8 u9 u10 u11 u12 u13 u14 u15 u16 u17 u18 u19 u20 u21 u22 u23 u24 u25 u26 u27 u28 u29 u30 u31 u32 u33 u34 u35 u36 u37 u38 u39 u40 u41 u42 u43 u44 u45 u46 u47 u48 u49 u50 u51 u52 u53 u54 u55 u56 u57 u58 u59 u60 u61 u62 u63 u64 u65 u66 : Value) (ds : List Deferred) :
    vtail.wp Try.prog (VPost W (Gone W b m r) r.1 true ds) { tmps := (u0 :: .pointer (some ⟨b1, 0, none⟩) :: u2 :: u3 :: .pointer (some ⟨b4, 0, none⟩) :: u5 :: u6 :: u7 :: u8 :: u9 :: u10 :: u11 :: u12 :: u13 :: u14 :: u15 :: u16 :: u17 :: u18 :: u19 :: u20 :: u21 :: u22 :: u23 :: u24 :: u25 :: u26 :: u27 :: u28 :: u29 :: u30 :: u31 :: u32 :: u33 :: u34 :: u35 :: u36 :: u37 :: u38 :: u39 :: u40 :: u41 :: u42 :: u43 :: u44 :: u45 :: u46 :: u47 :: u48 :: u49 :: u50 :: u51 :: u52 :: u53 :: u54 :: u55 :: u56 :: u57 :: u58 :: u59 :: u60 :: u61 :: u62 :: u63 :: u64 :: u65 :: u66 :: []).toArray, defers := ds } W := by
  obtain ⟨Q, hQ⟩ : ∃ Q, Q = VPost W (Gone W b m r) r.1 true ds := ⟨_, rfl⟩
  rw [← hQ]
  have HP : ∀ c a w, ¬ Q (.panic c) a w := fun c a w h => by rw [hQ] at h; cases h.e
  have HQ := Lib.hid hQ
  have HS := Lib.hid hS
  have hlen := hS.len
  have H0 : Hid (∃ S' : PS, clock N S' = some r ∧ PoolAt W b m S' ∧ S'.Ok Kb ∧ S'.s.length = S.s.length ∧ Ex (fun k => k = b) W W) := Lib.hid ⟨S, hr, h, hS, rfl, Ex.refl _ _⟩
  clear hQ hS h hr
  conv => arg 2; whnf
  go_wp2_with fail
  apply wp_label
  go_wp2_with fail
  go_loopg [6] N (fun kk x6 wr => Hid (∃ S' : PS, clock kk S' = some r ∧ PoolAt wr b m S' ∧ S'.Ok Kb ∧ S'.s.length = S.s.length ∧ Ex (fun k => k = b) W wr))
  case atStart => exact H0
  case round =>
    obtain ⟨S', hc, hp, hs, hl, hx⟩ := hrel.out
    clear hrel H0
    obtain ⟨kk, rfl⟩ : ∃ kk, gk = kk + 1 := by
      cases gk with
      | zero => cases hc
      | succ n => exact ⟨n, rfl⟩
    have hlt := hs.hand
    have hh := hp.hand hs
    have hn := hp.n hs
    have fh := hp.cells.frozen 1682
    have hle := hs.len
    have b1c := Up.cell h1 h1b _ hx
    have hw : IntKind.i64.wrap ((S'.hand : Int) + 1) = ((S'.hand + 1 : Nat) : Int) := by rw [IntWalk.i64_in _ (by omega)]; omega
    have hnE : S'.s ≠ [] := fun e => by rw [e] at hlt; exact absurd hlt (by simp)
    have HL := Lib.hid hl
    clear hl
    have hn0 : (S'.s.length : Int) ≠ 0 := by omega
    have hI : (S'.hand : Int) < 16 := by omega
    have hIn : S'.hand < 16 := by omega
    have U : Up (fun _ => False) wr.drew (fun u => u.cell? ⟨b1, 0, none⟩ = some (.pointer (some ⟨b, 0, none⟩)) ∧ u.cell? ⟨b, 1682, none⟩ = some (.int .i64 (S'.hand : Int))) := (Up.cell (w := wr.drew) b1c id).and (Up.cell (w := wr.drew) hh id)
    go_wp2_with fail
    refine wp_region_seq (fun _ => False) [] [(0, true), (1, true), (2, true), (3, true), (4, true), (5, true), (6, true), (7, true), (8, true)] (by kernel_rfl) (by kernel_rfl) (fun _ _ _ _ _ h => (HP _ _ _ h).elim) rfl (by kernel_rfl) ?_
    refine seq_at (some 20) (v := ?_) rfl (by kernel_rfl) (by kernel_rfl) ?_ ?_
    rotate_left
    · intro w' hw'
      obtain ⟨q0, q1⟩ := U w' hw'
      go_simp
      try with_reducible rfl
    simp only [Act.put, List.setIfInBounds_toArray, List.set_cons_zero, List.set_cons_succ]
    refine seq_at (some 21) (v := ?_) rfl (by kernel_rfl) (by kernel_rfl) ?_ ?_
    rotate_left
    · intro w' hw'
      obtain ⟨q0, q1⟩ := U w' hw'
      go_simp
      try with_reducible rfl
    simp only [Act.put, List.setIfInBounds_toArray, List.set_cons_zero, List.set_cons_succ]
    refine seq_at (some 22) (v := ?_) rfl (by kernel_rfl) (by kernel_rfl) ?_ ?_
    rotate_left
    · intro w' hw'
      obtain ⟨q0, q1⟩ := U w' hw'
      go_simp
      try with_reducible rfl
    simp only [Act.put, List.setIfInBounds_toArray, List.set_cons_zero, List.set_cons_succ]
    refine seq_at (some 23) (v := ?_) rfl (by kernel_rfl) (by kernel_rfl) ?_ ?_
    rotate_left
    · intro w' hw'
      obtain ⟨q0, q1⟩ := U w' hw'
      go_simp
      try with_reducible rfl
    simp only [Act.put, List.setIfInBounds_toArray, List.set_cons_zero, List.set_cons_succ]
    refine seq_at (some 24) (v := ?_) rfl (by kernel_rfl) (by kernel_rfl) ?_ ?_
    rotate_left
    · intro w' hw'
      obtain ⟨q0, q1⟩ := U w' hw'
      go_simp
      try with_reducible rfl
    simp only [Act.put, List.setIfInBounds_toArray, List.set_cons_zero, List.set_cons_succ]
    refine seq_at (some 25) (v := ?_) rfl (by kernel_rfl) (by kernel_rfl) ?_ ?_
    rotate_left
    · intro w' hw'
      obtain ⟨q0, q1⟩ := U w' hw'
      go_simp
      try with_reducible rfl
    simp only [Act.put, List.setIfInBounds_toArray, List.set_cons_zero, List.set_cons_succ]
    refine seq_at (some 26) (v := ?_) rfl (by kernel_rfl) (by kernel_rfl) ?_ ?_
    rotate_left
    · intro w' hw'
      obtain ⟨q0, q1⟩ := U w' hw'
      go_simp
      try with_reducible rfl
    simp only [Act.put, List.setIfInBounds_toArray, List.set_cons_zero, List.set_cons_succ]
    refine seq_at (some 27) (v := ?_) rfl (by kernel_rfl) (by kernel_rfl) ?_ ?_
    rotate_left
    · intro w' hw'
      obtain ⟨q0, q1⟩ := U w' hw'
      go_simp
      try with_reducible rfl
    simp only [Act.put, List.setIfInBounds_toArray, List.set_cons_zero, List.set_cons_succ]
    refine seq_at (some 6) (v := ?_) rfl (by kernel_rfl) (by kernel_rfl) ?_ ?_
    rotate_left
    · intro w' hw'
      obtain ⟨q0, q1⟩ := U w' hw'
      go_simp
      try with_reducible rfl
    simp only [Act.put, List.setIfInBounds_toArray, List.set_cons_zero, List.set_cons_succ]
    refine seq_nil ?_
    go_wp2_with fail
    have U2 : Up (fun _ => False) wr.drew.drew (fun u => u.cell? ⟨b1, 0, none⟩ = some (.pointer (some ⟨b, 0, none⟩)) ∧ u.cell? ⟨b, 1682, none⟩ = some (.int .i64 (S'.hand : Int)) ∧ u.cell? ⟨b, 1680, none⟩ = some (.int .i64 (S'.s.length : Int))) := (Up.cell (w := wr.drew.drew) b1c id).and ((Up.cell (w := wr.drew.drew) hh id).and (Up.cell (w := wr.drew.drew) hn id))
    refine wp_region_seq (fun _ => False) [13] [(0, true), (1, true), (2, true), (3, true), (4, true), (5, true), (6, true), (7, true), (8, true), (9, true), (10, true), (11, false), (12, true), (13, false)] (by kernel_rfl) (by kernel_rfl) (fun _ _ _ _ _ h => (HP _ _ _ h).elim) rfl (by kernel_rfl) ?_
    refine seq_at (some 28) (v := ?_) rfl (by kernel_rfl) (by kernel_rfl) ?_ ?_
    rotate_left
    · intro w' hw'
      obtain ⟨q0, q1, q2⟩ := U2 w' hw'
      go_simp
      try with_reducible rfl
    simp only [Act.put, List.setIfInBounds_toArray, List.set_cons_zero, List.set_cons_succ]
    refine seq_at (some 29) (v := ?_) rfl (by kernel_rfl) (by kernel_rfl) ?_ ?_
    rotate_left
    · intro w' hw'
      obtain ⟨q0, q1, q2⟩ := U2 w' hw'
      go_simp
      try with_reducible rfl
    simp only [Act.put, List.setIfInBounds_toArray, List.set_cons_zero, List.set_cons_succ]
    refine seq_at (some 30) (v := ?_) rfl (by kernel_rfl) (by kernel_rfl) ?_ ?_
    rotate_left
    · intro w' hw'
      obtain ⟨q0, q1, q2⟩ := U2 w' hw'
      go_simp
      try with_reducible rfl
    simp only [Act.put, List.setIfInBounds_toArray, List.set_cons_zero, List.set_cons_succ]
    refine seq_at (some 31) (v := ?_) rfl (by kernel_rfl) (by kernel_rfl) ?_ ?_
    rotate_left
    · intro w' hw'
      obtain ⟨q0, q1, q2⟩ := U2 w' hw'
      go_simp
      try with_reducible rfl
    simp only [Act.put, List.setIfInBounds_toArray, List.set_cons_zero, List.set_cons_succ]
    refine seq_at (some 32) (v := ?_) rfl (by kernel_rfl) (by kernel_rfl) ?_ ?_
    rotate_left
    · intro w' hw'
      obtain ⟨q0, q1, q2⟩ := U2 w' hw'
      go_simp
      try with_reducible rfl
    simp only [Act.put, List.setIfInBounds_toArray, List.set_cons_zero, List.set_cons_succ]
    refine seq_at (some 33) (v := ?_) rfl (by kernel_rfl) (by kernel_rfl) ?_ ?_
    rotate_left
    · intro w' hw'
      obtain ⟨q0, q1, q2⟩ := U2 w' hw'
      go_simp
      try with_reducible rfl
    simp only [Act.put, List.setIfInBounds_toArray, List.set_cons_zero, List.set_cons_succ]
    refine seq_at (some 34) (v := ?_) rfl (by kernel_rfl) (by kernel_rfl) ?_ ?_
    rotate_left
    · intro w' hw'
      obtain ⟨q0, q1, q2⟩ := U2 w' hw'
      go_simp
      try with_reducible rfl
    simp only [Act.put, List.setIfInBounds_toArray, List.set_cons_zero, List.set_cons_succ]
    refine seq_at (some 35) (v := ?_) rfl (by kernel_rfl) (by kernel_rfl) ?_ ?_
    rotate_left
    · intro w' hw'
      obtain ⟨q0, q1, q2⟩ := U2 w' hw'
      go_simp
      try with_reducible rfl
    simp only [Act.put, List.setIfInBounds_toArray, List.set_cons_zero, List.set_cons_succ]
    refine seq_at (some 36) (v := ?_) rfl (by kernel_rfl) (by kernel_rfl) ?_ ?_
    rotate_left
    · intro w' hw'
      obtain ⟨q0, q1, q2⟩ := U2 w' hw'
      go_simp
      try with_reducible rfl
    simp only [Act.put, List.setIfInBounds_toArray, List.set_cons_zero, List.set_cons_succ]
    refine seq_at (some 37) (v := ?_) rfl (by kernel_rfl) (by kernel_rfl) ?_ ?_
    rotate_left
    · intro w' hw'
      obtain ⟨q0, q1, q2⟩ := U2 w' hw'
      go_simp
      try with_reducible rfl
    simp only [Act.put, List.setIfInBounds_toArray, List.set_cons_zero, List.set_cons_succ]
    refine seq_at (some 38) (v := ?_) rfl (by kernel_rfl) (by kernel_rfl) ?_ ?_
    rotate_left
    · intro w' hw'
      obtain ⟨q0, q1, q2⟩ := U2 w' hw'
      go_simp
      try with_reducible rfl
    simp only [Act.put, List.setIfInBounds_toArray, List.set_cons_zero, List.set_cons_succ]
    refine seq_eff rfl (by kernel_rfl) (fun K hK => ?_)
    go_simp
    refine hK.out _ _ (.inl (Ex.refl _ _)) ?_
    refine seq_at (some 40) (v := ?_) rfl (by kernel_rfl) (by kernel_rfl) ?_ ?_
    rotate_left
    · intro w' hw'
      obtain ⟨q0, q1, q2⟩ := U2 w' hw'
      go_simp
      try with_reducible rfl
    simp only [Act.put, List.setIfInBounds_toArray, List.set_cons_zero, List.set_cons_succ]
    have fh2 : wr.drew.drew.frozen? ⟨b, 1682, none⟩ = false := fh
    have hh2 : wr.drew.drew.cell? ⟨b, 1682, none⟩ = some (.int .i64 (S'.hand : Int)) := hh
    refine seq_eff rfl (by kernel_rfl) (fun K hK => ?_)
    go_simp
    show K (Act.put _ none undef) _
    simp only [Act.put]
    refine hK.out _ _ (.inr (by simp)) ?_
    refine seq_nil ?_
    have hmod : ((S'.hand : Int) + 1).tmod (S'.s.length : Int) = (((S'.hand + 1) % S'.s.length : Nat) : Int) := by rw [Int.tmod_eq_emod_of_nonneg (by omega)]; push_cast; rfl
    rw [hmod]
    have hk2 : (S'.hand + 1) % S'.s.length < S'.s.length := Nat.mod_lt _ (by omega)
    have HT := hp.turn hs ((S'.hand + 1) % S'.s.length)
    have hTs := hs.turn hk2
    have hx2 : Ex (fun k => k = b) W (wr.setCell ⟨b, 1682, none⟩ (.int .i64 (((S'.hand + 1) % S'.s.length : Nat) : Int))).drew.drew := (hx.trans (setCell_ex (T := fun k => k = b) 1682 _ wr rfl)).trans ((Ex.drew _ _).trans (Ex.drew _ _))
    have HT2 : PoolAt (wr.setCell ⟨b, 1682, none⟩ (.int .i64 (((S'.hand + 1) % S'.s.length : Nat) : Int))).drew.drew b m { S' with hand := (S'.hand + 1) % S'.s.length } := HT.kept (T := fun _ => False) ((Ex.drew _ _).trans (Ex.drew _ _)) id id
    generalize (wr.setCell ⟨b, 1682, none⟩ (.int .i64 (((S'.hand + 1) % S'.s.length : Nat) : Int))).drew.drew = wt at *
    have hgs : S'.s[S'.hand]? = some S'.s[S'.hand] := List.getElem?_eq_getElem hlt
    have hmodl : (S'.hand + 1) % S'.s.length % S'.s.length = (S'.hand + 1) % S'.s.length := Nat.mod_eq_of_lt hk2
    simp only [clock, hgs, Option.getD_some] at hc
    clear U U2 fh2 hh2 hh hn fh HT hk2 hmod hw hn0 hI hIn hmodl
    cases hsl : S'.s[S'.hand] with
    | none =>
      rw [hsl] at hgs hc
      dsimp only at hc
      have f0 := HT2.free hTs (i := S'.hand) hgs
      have HC := Lib.hid (⟨_, hc, HT2, hTs, HL.out, hx2⟩ : ∃ S' : PS, clock kk S' = some r ∧ PoolAt wt b m S' ∧ S'.Ok Kb ∧ S'.s.length = S.s.length ∧ Ex (fun k => k = b) W wt)
      clear hgs hc hsl HT2 hTs hx2
      go_wp2_with fail
      go_roundg kk
      case measure => omega
      case rel => exact HC
    | some l =>
      rw [hsl] at hgs hc
      dsimp only at hc
      obtain ⟨f0, f1, f2, f3⟩ := HT2.live hTs (i := S'.hand) hgs
      obtain ⟨l1, l2, l3, l4⟩ := hTs.live S'.hand l hgs
      by_cases hpn : 0 < l.pins
      · rw [if_pos hpn] at hc
        have HC := Lib.hid (⟨_, hc, HT2, hTs, HL.out, hx2⟩ : ∃ S' : PS, clock kk S' = some r ∧ PoolAt wt b m S' ∧ S'.Ok Kb ∧ S'.s.length = S.s.length ∧ Ex (fun k => k = b) W wt)
        clear hgs hc hsl HT2 hTs hx2 l1 l2 l3 l4
        go_wp2_with fail
        go_roundg kk
        case measure => omega
        case rel => exact HC
      · rw [if_neg hpn] at hc
        cases hus : l.used with
        | true =>
          rw [if_pos hus] at hc
          rw [hus] at f1
          have hok : PS.Ok Kb (PS.put { S' with hand := (S'.hand + 1) % S'.s.length } S'.hand (some { l with used := false })) := hTs.same (l := l) hgs ⟨l1, l2, l3, l4⟩ rfl
          have HT3 := HT2.set hTs (i := S'.hand) (j := 1) (v := .bool false) (l := l) (l' := { l with used := false }) hgs (by omega) rfl hok rfl
          have fz := HT2.cells.frozen (S'.hand * 105 + 1)
          have HC := Lib.hid (⟨PS.put { S' with hand := (S'.hand + 1) % S'.s.length } S'.hand (some { l with used := false }), hc, HT3, hok, by simp [PS.put]; exact HL.out, hx2.trans (setCell_ex (T := fun k => k = b) _ _ _ rfl)⟩ : ∃ Sx : PS, clock kk Sx = some r ∧ PoolAt (wt.setCell ⟨b, S'.hand * 105 + 1, none⟩ (.bool false)) b m Sx ∧ Sx.Ok Kb ∧ Sx.s.length = S.s.length ∧ Ex (fun k => k = b) W (wt.setCell ⟨b, S'.hand * 105 + 1, none⟩ (.bool false)))
          clear hgs hc hsl HT2 hTs hx2 l1 l2 l3 l4 HT3 hok
          go_wp2_with fail
          go_roundg kk
          case measure => omega
          case rel => exact HC
        | false =>
          rw [if_neg (by rw [hus]; decide)] at hc
          rw [hus] at f1
          injection hc with hc
          have HC := Lib.hid (hc ▸ ⟨HT2, hx2⟩ : Gone W b m r wt)
          have HR : Hid (r.1 = l.f.page) := Lib.hid (by rw [← hc])
          clear hgs hc hsl HT2 hTs hx2 l1 l2 l3 l4
          go_wp2_with fail
          rw [HQ.out]
          exact ⟨rfl, by rw [HR.out]; rfl, rfl, rfl, HC.out⟩
end Go.Proofs.Ytjbjfpbhacpeiaa
