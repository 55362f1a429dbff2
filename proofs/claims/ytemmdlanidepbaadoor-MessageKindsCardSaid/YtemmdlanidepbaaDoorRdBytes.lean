/- Contracts of wire.Reader: count, Bytes. -/
import Derived.Test.YtemmdlanidepbaaDoorRdMore
namespace Go.Proofs.YtemmdlanidepbaaDoor
open Go.RowKit

section
variable (w : World) (g : Nat) (ad : Addr) (c : Nat) (l : List UInt8) (pos : Nat) (h : Rdr w g ad c l pos)

theorem count_neg (most : Int) (hm : most < 0) :
    Calls Tryd.prog 78 #[.pointer (some ⟨g, 0, none⟩), .int .i64 most] w (fun e w' => e = .returned (.tuple #[.int .i64 0, .int .i64 2]) ∧ w = w') := by
  go_enter Tryd.func78, Tryd.ntmps78
  go_wp2_with fail
  go_ret2
  exact ⟨rfl, rfl⟩

include h
theorem count_no (most : Int) (hm : 0 ≤ most) (hd : dec 0 0 (l.drop pos) = none) :
    Calls Tryd.prog 78 #[.pointer (some ⟨g, 0, none⟩), .int .i64 most] w (Rd2 w g ad c l pos (.int .i64 0) (.int .i64 4)) := by
  have HN := Lib.hid (rdNumber_no _ _ _ _ _ _ h hd)
  clear hd
  go_enter Tryd.func78, Tryd.ntmps78
  go_wp2_with fail
  refine HN.out.mono ?_
  rintro e w1 ⟨rfl, hr, hg⟩
  go_wp2_with fail
  go_ret2
  exact ⟨rfl, hr, hg⟩
theorem count_long (most : Int) (hm : 0 ≤ most) (hm2 : most ≤ 9223372036854775807) {x k : Nat} (hd : dec 0 0 (l.drop pos) = some (x, k)) (hx : most < (x : Int)) :
    Calls Tryd.prog 78 #[.pointer (some ⟨g, 0, none⟩), .int .i64 most] w (Rd2 w g ad c l (pos + k) (.int .i64 0) (.int .i64 3)) := by
  have HN := Lib.hid (rdNumber_ok _ _ _ _ _ _ h hd)
  clear hd
  go_enter Tryd.func78, Tryd.ntmps78
  go_wp2_with fail
  refine HN.out.mono ?_
  rintro e w1 ⟨rfl, hr, hg⟩
  go_wp2_with fail
  go_ret2
  exact ⟨rfl, hr, hg⟩
theorem count_ok (most : Int) (hm2 : most ≤ 9223372036854775807) {x k : Nat} (hd : dec 0 0 (l.drop pos) = some (x, k)) (hx : (x : Int) ≤ most) :
    Calls Tryd.prog 78 #[.pointer (some ⟨g, 0, none⟩), .int .i64 most] w (Rd2 w g ad c l (pos + k) (.int .i64 (x : Int)) (.int .i64 0)) := by
  have HN := Lib.hid (rdNumber_ok _ _ _ _ _ _ h hd)
  clear hd
  have hm : 0 ≤ most := by omega
  go_enter Tryd.func78, Tryd.ntmps78
  go_wp2_with fail
  refine HN.out.mono ?_
  rintro e w1 ⟨rfl, hr, hg⟩
  go_wp2_with fail
  go_ret2
  exact ⟨rfl, hr, hg⟩
end

/-- the place is written back -/
theorem Rdr.back {w : World} {g : Nat} {ad : Addr} {c : Nat} {l : List UInt8} {p : Nat} (h : Rdr w g ad c l p) (w0 : World) (hg : w0.grownBy w (some g)) (pos : Nat) (hp : pos ≤ l.length) :
    Rdr (w.setCell ⟨g, 1, none⟩ (.int .i64 (pos : Int))) g ad c l pos ∧ w0.grownBy (w.setCell ⟨g, 1, none⟩ (.int .i64 (pos : Int))) (some g) :=
  ⟨h.set pos hp, grown_trans hg (grown_set _ _ _ _) (.inl rfl)⟩

/-- bytes in a new row, and a reader (block g) that stands at pos -/
def BytesRead (w : World) (g : Nat) (ad : Addr) (c : Nat) (l : List UInt8) (pos : Nat) (news : List UInt8) (e : Ending) (w' : World) : Prop :=
  ∃ b c', e = .returned (.tuple #[.slice (some ⟨b, 0, none⟩) news.length c', .int .i64 0]) ∧ w'.ownsRow w.heap.size 5 1 (.slice (some ⟨b, 0, none⟩) news.length c') news.length (bv news) ∧ Rdr w' g ad c l pos ∧ w.grownBy w' (some g)
theorem grown_alloc {W w' : World} {o : Obj} (hg : (W.alloc o).drew.grownBy w' (some W.heap.size)) (r : Option Nat) : W.grownBy w' r :=
  ⟨hg.os, hg.tape, hg.output, Nat.le_trans (by simp) hg.size, fun i hi _ => (hg.block i (by simp; omega) (fun e => by injection e with e; omega)).trans (Below.heap_alloc _ _ _ hi)⟩
theorem bytesRead_of {w W w' : World} {g b c' : Nat} {ad : Addr} {c : Nat} {l : List UInt8} {pos k x q r : Nat} (hr : Rdr W g ad c l (pos + k + x)) (hg : w.grownBy W (some g)) (hq : q = pos + k) (hrr : r = pos + k + x)
    (ho : w'.ownsRow W.heap.size 5 1 (.slice (some ⟨b, 0, none⟩) (0 + (r - q)) c') (0 + (r - q)) ([] ++ bv ((l.take r).drop q))) (hn : ∀ row, W.grownBy w' row) (_hlt : g < W.heap.size) :
    BytesRead w g ad c l (pos + k + x) ((l.drop (pos + k)).take x) (.returned (.tuple #[.slice (some ⟨b, 0, none⟩) (0 + (r - q)) c', .int .i64 0])) w' := by
  subst hq
  subst hrr
  have e : (l.take (pos + k + x)).drop (pos + k) = (l.drop (pos + k)).take x := by rw [List.drop_take]; congr 1; omega
  have hx : ((l.drop (pos + k)).take x).length = x := by rw [List.length_take, List.length_drop]; have := hr.pos_le; omega
  have e2 : 0 + (pos + k + x - (pos + k)) = x := by omega
  rw [e, e2, List.nil_append] at ho
  rw [e2]
  refine ⟨b, c', by rw [hx], by rw [hx]; exact own_lower ho hg.size, hr.move (hn none) (by simp) (by simp), grown_trans hg (hn (some g)) (.inl rfl)⟩
theorem keep_cell {W w' : World} {o : Obj} {g i : Nat} {u : Value} (hg : (W.alloc o).drew.grownBy w' (some W.heap.size)) (_hlt : g < W.heap.size) (h : W.cell? ⟨g, i, none⟩ = some u) : w'.cell? ⟨g, i, none⟩ = some u :=
  (grown_alloc hg none).cell h (by simp)
theorem At.cut {w : World} {ad : Addr} {c : Nat} {cs : List Value} (h : At w (some ad) cs) (lo hi : Nat) (_hc : hi ≤ c) : At w (if c = lo then some ad else some (ad.add lo)) ((cs.take hi).drop lo) := fun j u hj => by
  have hj' : cs[lo + j]? = some u := by
    rw [List.getElem?_drop, List.getElem?_take] at hj
    split at hj
    · exact hj
    · cases hj
  have hlt : lo + j < hi := by
    rw [List.getElem?_drop, List.getElem?_take] at hj
    split at hj
    · assumption
    · cases hj
  obtain ⟨ad', e, hc⟩ := h _ _ hj'
  injection e with e
  subst e
  rw [if_neg (by omega)]
  exact ⟨_, rfl, by rw [add_add]; exact hc⟩
theorem bv_cut (l : List UInt8) (lo hi : Nat) : bv ((l.take hi).drop lo) = ((bv l).take hi).drop lo := by simp [bv, List.map_drop, List.map_take]
theorem bytes_cut {W : World} {g : Nat} {ad : Addr} {c : Nat} {l : List UInt8} {pos q r : Nat} (h : Rdr W g ad c l pos) (hr : r ≤ c) : At ((W.alloc (.cells #[] 5)).drew) (if c = q then some ad else some (ad.add q)) (bv ((l.take r).drop q)) := by
  rw [bv_cut]
  exact (h.bytes.mono (((Below.refl _ _).alloc (Nat.le_refl _) _).drew)).cut q r hr

section
variable (w : World) (g : Nat) (ad : Addr) (c : Nat) (l : List UInt8) (pos : Nat) (h : Rdr w g ad c l pos)
include h
theorem rdBytes_neg (most : Int) (hm : most < 0) :
    Calls Tryd.prog 53 #[.pointer (some ⟨g, 0, none⟩), .int .i64 most] w (Rd2 w g ad c l pos (.slice none 0 0) (.int .i64 2)) := by
  have h0 := h.cell0
  have h1 := h.cell1
  have hf := h.free 1
  go_enter Tryd.func53, Tryd.ntmps53
  go_wp2_with fail
  refine (there_yes _ _ _ _ _ h0).mono ?_
  rintro e w' ⟨rfl, rfl⟩
  go_wp2_with fail
  refine (count_neg _ _ most hm).mono ?_
  rintro e w1 ⟨rfl, rfl⟩
  go_wp2_with fail
  go_ret2
  have := h.back w (grown_drewN w 0 _) pos h.pos_le
  exact ⟨rfl, this.1, this.2⟩
theorem rdBytes_no (most : Int) (hm : 0 ≤ most) (hd : dec 0 0 (l.drop pos) = none) :
    Calls Tryd.prog 53 #[.pointer (some ⟨g, 0, none⟩), .int .i64 most] w (Rd2 w g ad c l pos (.slice none 0 0) (.int .i64 4)) := by
  have HN := Lib.hid (count_no _ _ _ _ _ _ h most hm hd)
  clear hd
  have h0 := h.cell0
  have h1 := h.cell1
  go_enter Tryd.func53, Tryd.ntmps53
  go_wp2_with fail
  refine (there_yes _ _ _ _ _ h0).mono ?_
  rintro e w' ⟨rfl, rfl⟩
  go_wp2_with fail
  refine HN.out.mono ?_
  rintro e w1 ⟨rfl, hr, hg⟩
  have g1 := hr.cell1
  have gf := hr.free 1
  go_wp2_with fail
  go_ret2
  have := hr.back w hg pos h.pos_le
  exact ⟨rfl, this.1, this.2⟩
theorem rdBytes_long (most : Int) (hm : 0 ≤ most) (hm2 : most ≤ 9223372036854775807) {x k : Nat} (hd : dec 0 0 (l.drop pos) = some (x, k)) (hx : most < (x : Int)) :
    Calls Tryd.prog 53 #[.pointer (some ⟨g, 0, none⟩), .int .i64 most] w (Rd2 w g ad c l pos (.slice none 0 0) (.int .i64 3)) := by
  have HN := Lib.hid (count_long _ _ _ _ _ _ h most hm hm2 hd hx)
  clear hd
  have h0 := h.cell0
  have h1 := h.cell1
  go_enter Tryd.func53, Tryd.ntmps53
  go_wp2_with fail
  refine (there_yes _ _ _ _ _ h0).mono ?_
  rintro e w' ⟨rfl, rfl⟩
  go_wp2_with fail
  refine HN.out.mono ?_
  rintro e w1 ⟨rfl, hr, hg⟩
  have g1 := hr.cell1
  have gf := hr.free 1
  go_wp2_with fail
  go_ret2
  have := hr.back w hg pos h.pos_le
  exact ⟨rfl, this.1, this.2⟩
theorem rdBytes_short (most : Int) (hm2 : most ≤ 9223372036854775807) {x k : Nat} (hd : dec 0 0 (l.drop pos) = some (x, k)) (hx : (x : Int) ≤ most) (hs : l.length < pos + k + x) :
    Calls Tryd.prog 53 #[.pointer (some ⟨g, 0, none⟩), .int .i64 most] w (Rd2 w g ad c l pos (.slice none 0 0) (.int .i64 4)) := by
  have HN := Lib.hid (count_ok _ _ _ _ _ _ h most hm2 hd hx)
  have hk := (dec_fits _ _ _ (by omega) (by simp) _ _ hd).2.1
  rw [List.length_drop] at hk
  clear hd
  have h0 := h.cell0
  have h1 := h.cell1
  have hp := h.pos_le
  have e1 : decide (l.length - (pos + k) < x) = true := by simp; omega
  go_enter Tryd.func53, Tryd.ntmps53
  go_wp2_with fail
  refine (there_yes _ _ _ _ _ h0).mono ?_
  rintro e w' ⟨rfl, rfl⟩
  go_wp2_with fail
  refine HN.out.mono ?_
  rintro e w1 ⟨rfl, hr, hg⟩
  have g1 := hr.cell1
  have gf := hr.free 1
  go_wp2_with fail
  refine (left_yes _ _ _ _ _ _ hr).mono ?_
  rintro e w' ⟨rfl, n, rfl⟩
  go_wp2_with fail
  go_ret2
  have := (hr.drewN n).back w (grown_trans hg (grown_drewN _ n (some g)) (.inl rfl)) pos h.pos_le
  exact ⟨rfl, this.1, this.2⟩
theorem rdBytes_ok (most : Int) (hm2 : most ≤ 9223372036854775807) {x k : Nat} (hd : dec 0 0 (l.drop pos) = some (x, k)) (hx : (x : Int) ≤ most) (hs : pos + k + x ≤ l.length) :
    Calls Tryd.prog 53 #[.pointer (some ⟨g, 0, none⟩), .int .i64 most] w (BytesRead w g ad c l (pos + k + x) ((l.drop (pos + k)).take x)) := by
  have HN := Lib.hid (count_ok _ _ _ _ _ _ h most hm2 hd hx)
  have hk := (dec_fits _ _ _ (by omega) (by simp) _ _ hd).2.1
  rw [List.length_drop] at hk
  clear hd
  have h0 := h.cell0
  have h1 := h.cell1
  have hp := h.pos_le
  have hlen := h.len
  have e1 : decide (l.length - (pos + k) < x) = false := by simp; omega
  go_enter Tryd.func53, Tryd.ntmps53
  go_wp2_with fail
  refine (there_yes _ _ _ _ _ h0).mono ?_
  rintro e w' ⟨rfl, rfl⟩
  go_wp2_with fail
  refine HN.out.mono ?_
  rintro e w1 ⟨rfl, hr, hg⟩
  have g1 := hr.cell1
  have gf := hr.free 1
  go_wp2_with fail
  refine (left_yes _ _ _ _ _ _ hr).mono ?_
  rintro e w' ⟨rfl, n, rfl⟩
  go_wp2_with fail
  have HR := (hr.drewN n).back w (grown_trans hg (grown_drewN _ n (some g)) (.inl rfl)) (pos + k + x) hs
  rw [show ((pos + k + x : Nat) : Int) = (pos : Int) + k + x by omega] at HR
  generalize (w1.drewN n).setCell ⟨g, 1, none⟩ (.int .i64 ((pos : Int) + k + x)) = W at HR ⊢
  clear hr hg g1 gf HN h0 h1 e1
  have h0 := HR.1.cell0
  have h1 := HR.1.cell1
  have hlt := HR.1.lt
  obtain ⟨hr, hg⟩ := HR
  have Hr := Lib.hid hr
  have Hg := Lib.hid hg
  clear hr hg h
  have hcap := Hr.out.cap
  obtain ⟨q, hq⟩ : ∃ q, q = pos + k := ⟨_, rfl⟩
  obtain ⟨r, hrr⟩ : ∃ r, r = pos + k + x := ⟨_, rfl⟩
  rw [← hrr] at h1
  have hw : IntKind.i64.wrap ((r : Int) - x) = q := (IntWalk.i64_in _ (by omega)).trans (by omega)
  have b0 : (0 : Int) ≤ (q : Int) := by omega
  have b1 : (q : Int) ≤ (r : Int) := by omega
  have b2 : (r : Int) ≤ (c : Int) := by omega
  have Hq := Lib.hid hq
  have Hrr := Lib.hid hrr
  clear hq hrr
  have hmk : ∀ w : World, (Instr.makeSlice 28 (.int .i64 0) (.int .i64 0)).run Tryd.prog w = .ok (.slice (some ⟨w.heap.size, 0, none⟩) 0 0) (w.alloc (.cells #[] 5)) := fun w => by kernel_rfl
  go_region_held3 (fun w' => w'.cell? ⟨g, 0, none⟩ = some (.slice (some ad) l.length c) ∧ w'.cell? ⟨g, 1, none⟩ = some (.int .i64 (r : Int)))
    (first | go_keep | exact ⟨keep_cell hg' hlt h0, keep_cell hg' hlt h1⟩)
    (first | (refine step_wanted rfl ?_; refine wp_app_rows _ _ _ 28 rfl W.heap.size 5 (.int .u8 0) 1 1 Tryd.underlying28 infoU8 rfl ?s3 (.slice (some ⟨W.heap.size, 0, none⟩) 0 0) 0 [] rfl ?zo _ _ _ (bv ((l.take r).drop q)) rfl ?zl ?za (bv_one _) ?zm ?zb ?zc ?_; (case s3 => omega); (case zo => exact (World.ownsRow_made W _ 0 (Nat.le_refl _) (by simp [maxLen]) (by simp)).drew); (case zl => have e1 := Hq.out; have e2 := Hrr.out; rw [bv_len, List.length_drop, List.length_take]; omega); (case za => exact (bytes_cut Hr.out (by omega))); (case zm => have e1 := Hq.out; have e2 := Hrr.out; simp only [maxLen]; omega); (case zb => have e1 := Hq.out; have e2 := Hrr.out; omega); (case zc => simp); intro v' w' ho' hg' hv'))
  generalize (if c = q then some ad else some (ad.add q)) = AA
  go_wp2
  go_ret2
  obtain ⟨b, c', rfl⟩ := own_some ho' (isSome_of rfl hv')
  exact bytesRead_of Hr.out Hg.out Hq.out Hrr.out ho' (grown_alloc hg') hlt
end
end Go.Proofs.YtemmdlanidepbaaDoor
