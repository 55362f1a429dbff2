/- Contracts of wire.Take over numbers, and of millpondref01.Reader's Numbers. -/
import Derived.Test.YtemmdlanidepbaaPairs
import Derived.Test.YtemmdlanidepbaaRef3
namespace Go.Proofs.Ytemmdlanidepbaa
open Go.RowKit
set_option linter.unusedSimpArgs false

/-- numbers as cells -/
def nv (xs : List Nat) : List Value := xs.map fun n : Nat => .int .u64 (n : Int)
theorem nv_app (P Q : List Nat) : nv (P ++ Q) = nv P ++ nv Q := by simp [nv]
theorem nv_len (P : List Nat) : (nv P).length = P.length := by simp [nv]
theorem nv_one (P : List Nat) : ∀ u ∈ nv P, u.oneCell' = true := by
  intro u hu
  simp only [nv, List.mem_map] at hu
  obtain ⟨p, _, rfl⟩ := hu
  rfl
theorem nv_get (P : List Nat) (j : Nat) (hj : j < P.length) : (nv P)[j]? = some (.int .u64 ((P[j] : Nat) : Int)) := by simp [nv, List.getElem?_eq_getElem hj]
theorem infoU64 : (Try.prog.info? 22).map (fun i => (i.zero, i.size, i.bytes)) = some (some (.int .u64 0), 1, 8) := by kernel_rfl
theorem stop_to {p : Prop} (h : Hid p) : p := h.out

/-- 'append(v, n)': one number, which lies in a new block. -/
theorem app_nat {ops : Array Oper} {rest : List Oper} {o : Oper} {a : Act} {Q : Exit → Act → World → Prop} {W : World} (hgd : o.guard = none) (s x : Operand)
    (ho : o.op = .call { callee := .builtin .append, args := #[s, x], argTypes := #[87, 87] })
    (base : Nat) (v : Value) (P : List Nat) (hs : a.eval s = v) (hown : W.ownsRow base 22 1 v P.length (nv P)) (z : Int) (n : Nat) (hz : z = (n : Int))
    (hx : a.eval x = .slice (some ⟨W.heap.size, 0, none⟩) 1 1) (hle : P.length + 1 ≤ 8796093022208) (hbase : base ≤ W.heap.size)
    (h : ∀ v' w', w'.ownsRow base 22 1 v' (P ++ [n]).length (nv (P ++ [n])) → W.grownBy w' v.ownBlock → (v'.ownBlock = v.ownBlock ∨ ∃ g, v'.ownBlock = some g ∧ W.heap.size ≤ g) → wpList Try.prog ops Q rest (a.put o.dst v') w') :
    wpList Try.prog ops Q (o :: rest) a (W.alloc (.cells #[.int .u64 z] 22)) := by
  subst hz
  refine app_rows _ hgd s x 87 ho base 22 (.int .u64 0) 1 8 Try.underlying87 infoU64 rfl (by omega) v P.length (nv P) hs (hown.alloc _) (some ⟨W.heap.size, 0, none⟩) 1 1 (nv [n]) hx rfl ?_ (nv_one _) (by simp only [maxLen]; omega) (by omega) (by simp; omega) ?_
  · intro j u hj
    refine ⟨_, rfl, ?_⟩
    match j, hj with
    | 0, hj =>
      have e : (Value.int .u64 (n : Int)) = u := by simpa [nv] using hj
      subst e
      rw [add0]
      simp
    | j + 1, hj => simp [nv] at hj
  · intro v' w' h2 h3 h4
    refine h v' w' (by rw [nv_app]; simpa using h2) ?_ ?_
    · exact ⟨h3.os, h3.tape, h3.output, Nat.le_trans (by simp) h3.size, fun k hk hr => (h3.block k (by simp; omega) hr).trans (Below.heap_alloc _ _ _ hk)⟩
    · rcases h4 with h4 | ⟨g, h4, h5⟩
      · exact .inl h4
      · exact .inr ⟨g, h4, by simp at h5; omega⟩

/-- a list that is read: a row of the call's own, and the reader behind it; or refused, and the reader where it was -/
def NumsRead (w : World) (g : Nat) (ad : Addr) (c : Nat) (l : List UInt8) (pos q n : Nat) (e : Ending) (w' : World) : Prop :=
  match many dec1 n (l.drop q) with
  | some (P, m) => ∃ v, e = .returned (.tuple #[v, .int .i64 0]) ∧ w'.ownsRow w.heap.size 22 1 v P.length (nv P) ∧ Rdr w' g ad c l (q + m) ∧ w.grownBy w' (some g)
  | none => Rd2 w g ad c l pos (.slice none 0 0) (.int .i64 4) e w'
theorem NumsRead.mk_none {w w' : World} {g : Nat} {ad : Addr} {c : Nat} {l : List UInt8} {pos q n : Nat} (hn : many dec1 n (l.drop q) = none) (h : Rdr w' g ad c l pos) (hg : w.grownBy w' (some g)) :
    NumsRead w g ad c l pos q n (.returned (.tuple #[.slice none 0 0, .int .i64 4])) w' := by
  unfold NumsRead
  rw [hn]
  exact ⟨rfl, h, hg⟩
theorem NumsRead.mk_some {w w' : World} {g : Nat} {ad : Addr} {c : Nat} {l : List UInt8} {pos q n p : Nat} {P : List Nat} {v : Value} (hM : Mid dec1 l n q P.length P p) (hn : ¬ P.length < n)
    (ho : w'.ownsRow w.heap.size 22 1 v P.length (nv P)) (h : Rdr w' g ad c l p) (hg : w.grownBy w' (some g)) :
    NumsRead w g ad c l pos q n (.returned (.tuple #[v, .int .i64 0])) w' := by
  unfold NumsRead
  rw [hM.all hn]
  have := hM.room
  exact ⟨v, rfl, ho, by rw [show q + (p - q) = p by omega]; exact h, hg⟩

theorem fn4_not (w : World) (f : FuncId) : (binOp .eql 90 (.func (.func f) #[] #[]) .nilFunc).run Try.prog w = .ok (.bool false) w := by kernel_rfl

section
variable (w : World) (g : Nat) (ad : Addr) (c : Nat) (l : List UInt8) (pos : Nat) (h : Rdr w g ad c l pos) (hl : l.length ≤ 1073741824)
include h
theorem take1_fail (most e : Int) (p : Nat) (he : (e == 0) = false) (HC : Calls Try.prog 39 #[.pointer (some ⟨g, 0, none⟩), .int .i64 most] w (Rd2 w g ad c l p (.int .i64 0) (.int .i64 e))) :
    Calls Try.prog 44 #[.pointer (some ⟨g, 0, none⟩), .int .i64 most, .func (.func 20) #[] #[]] w (Rd2 w g ad c l pos (.slice none 0 0) (.int .i64 e)) := by
  have HN := Lib.hid HC
  clear HC
  have h0 := h.cell0
  have h1 := h.cell1
  have hf := fn4_not
  go_enter Try.func44, Try.ntmps44
  go_wp2_with fail
  refine (there_yes _ _ _ _ _ h0).mono ?_
  rintro e w' ⟨rfl, rfl⟩
  go_wp2_with fail
  refine HN.out.mono ?_
  rintro e w1 ⟨rfl, hr, hg⟩
  go_wp2_with fail
  refine wp_loop_rounds 1 ?_
  rw [rounds_succ]
  have hb := (Below.refl w1.heap.size w1).alloc (Nat.le_refl _) (.cells #[] 22)
  have hr2 := hr.below hb
  have hg2 := grown_trans hg (grown_of_below hb (some g)) (.inl rfl)
  have g1 := hr2.cell1
  have gf := hr2.free 1
  go_wp2
  go_ret2
  have := hr2.back w hg2 pos h.pos_le
  exact ⟨rfl, this.1, this.2⟩
include hl
set_option maxRecDepth 100000 in
set_option maxHeartbeats 4000000 in
theorem take1_any (most : Int) (hm2 : most ≤ 9223372036854775807) {x k : Nat} (hd : dec 0 0 (l.drop pos) = some (x, k)) (hx : (x : Int) ≤ most) :
    Calls Try.prog 44 #[.pointer (some ⟨g, 0, none⟩), .int .i64 most, .func (.func 20) #[] #[]] w (NumsRead w g ad c l pos (pos + k) x) := by
  have HN := Lib.hid (count_ok _ _ _ _ _ _ h most hm2 hd hx)
  clear hd
  have h0 := h.cell0
  have h1 := h.cell1
  have hp := h.pos_le
  have hf := fn4_not
  go_enter Try.func44, Try.ntmps44
  go_wp2_with fail
  refine (there_yes _ _ _ _ _ h0).mono ?_
  rintro e w' ⟨rfl, rfl⟩
  go_wp2_with fail
  refine HN.out.mono ?_
  rintro e w1 ⟨rfl, hr, hg⟩
  go_wp2_with fail
  have hb := (Below.refl w1.heap.size w1).alloc (Nat.le_refl _) (.cells #[] 22)
  have hr2 := hr.below hb
  have hg2 := grown_trans hg (grown_of_below hb (some g)) (.inl rfl)
  have H0 : (w1.alloc (.cells #[] 22)).ownsRow w.heap.size 22 1 (.slice (some ⟨w1.heap.size, 0, none⟩) 0 0) 0 [] := own_lower (World.ownsRow_made w1 _ 0 (Nat.le_refl _) (by simp [maxLen]) (by simp)) hg.size
  have Hlt : g < w.heap.size := h.lt
  clear hr hg HN h0 h1 hb
  go_loopg [10, 11, 12] x (fun kk ee v i wr => ∃ (j : Nat) (P : List Nat) (p : Nat), i = .int .i64 (j : Int) ∧ Rdr wr g ad c l p ∧ w.grownBy wr (some g) ∧
    (ee = .int .i64 0 ∧ Hid (j + kk = x) ∧ Hid (Mid dec1 l x (pos + k) j P p) ∧ wr.ownsRow w.heap.size 22 1 v P.length (nv P) ∧ v.ownBlock.isSome ∨ ee = .int .i64 4 ∧ Hid (many dec1 x (l.drop (pos + k)) = none)))
  case atStart => exact ⟨0, [], _, rfl, hr2, hg2, .inl ⟨rfl, Nat.zero_add _, Mid.start _ _ _ hr2.pos_le, H0, rfl⟩⟩
  case round =>
    clear H0 hr2 hg2
    obtain ⟨j, P, p, rfl, hr, hg, ⟨rfl, hj, HM, ho, hs⟩ | ⟨rfl, hn⟩⟩ := hrel
    · obtain ⟨vb, vc, rfl⟩ := own_some ho hs
      have hvb := (ho.lt vb rfl).1
      have hPl : P.length + 1 ≤ 8796093022208 := by have h1 := HM.out.room; have h2 := HM.out.fits; have h3 := HM.out.len; omega
      by_cases hlt : j < x
      · go_wp2_with fail
        cases hd : dec 0 0 (l.drop p) with
        | none =>
          refine (rdNumber_no _ _ _ _ _ _ hr hd).mono ?_
          rintro e w2 ⟨rfl, hr2, hx⟩
          have ho3 := kept_by ho hx (fun k hk => by injection hk with hk; subst hk; show vb ≠ g; omega)
          have hg4 := grown_trans hg hx (.inl rfl)
          go_wp2_with (at_builtin; refine stop_to ?_)
          refine Lib.hid ?_
          refine app_nat rfl _ _ rfl w.heap.size _ P rfl ho3 0 0 rfl rfl hPl hg4.size ?_
          intro v' w' ho' hg' hv'
          go_wp2
          go_roundg 0
          case measure => have := hj.out; omega
          case rel => exact ⟨j + 1, P, _, (by go_num), h.off hr2 hg' hvb, grown_trans hg4 hg' (.inr ⟨_, rfl, hvb⟩), .inr ⟨rfl, HM.out.stop hlt hd⟩⟩
        | some r =>
          obtain ⟨a, m⟩ := r
          have hm := (dec_fits _ _ _ (by omega) (by simp) _ _ hd).1
          refine (rdNumber_ok _ _ _ _ _ _ hr hd).mono ?_
          rintro e w2 ⟨rfl, hr2, hx⟩
          have ho3 := kept_by ho hx (fun k hk => by injection hk with hk; subst hk; show vb ≠ g; omega)
          have hg4 := grown_trans hg hx (.inl rfl)
          go_wp2_with (at_builtin; refine stop_to ?_)
          refine Lib.hid ?_
          refine app_nat rfl _ _ rfl w.heap.size _ P rfl ho3 _ a rfl rfl hPl hg4.size ?_
          intro v' w' ho' hg' hv'
          go_wp2
          go_roundg (gk - 1)
          case measure => have := hj.out; omega
          case rel => exact ⟨j + 1, P ++ [a], _, (by go_num), h.off hr2 hg' hvb, grown_trans hg4 hg' (.inr ⟨_, rfl, hvb⟩), .inl ⟨rfl, (by have := hj.out; show _ = _; omega), HM.out.next hlt hd hr2.pos_le hm, ho', isSome_of hs hv'⟩⟩
      · go_wp2
        go_ret2
        exact NumsRead.mk_some (by rw [HM.out.len]; exact HM.out) (by rw [HM.out.len]; exact hlt) ho hr hg
    · have g1 := hr.cell1
      have gf := hr.free 1
      go_wp2
      go_ret2
      have := hr.back w hg pos h.pos_le
      exact NumsRead.mk_none hn.out this.1 this.2
end
end Go.Proofs.Ytemmdlanidepbaa
