/- Contract of the law's known(): the chapter's rows hold. -/
import Derived.Test.YtemmdlanidepbaaRdBytes
namespace Go.Proofs.Ytemmdlanidepbaa
open Go.RowKit

/-- string(b), b bytes that are read -/
theorem run_conv {w : World} {A : Option Addr} {c : Nat} {l : List UInt8} (h : At w A (bv l)) :
    (convert 23 9 (.slice A l.length c)).run Try.prog w = .ok (.string ⟨l.toArray⟩) w := by
  rcases A with _ | ad
  · have : l = [] := by
      rcases l with _ | ⟨b, l⟩
      · rfl
      · obtain ⟨ad, e, _⟩ := h 0 _ rfl
        cases e
    subst this
    exact run_convert_bytes_nil w 23 5 Try.underlying23 Try.underlying5 0 c 9 Try.underlying9
  · refine run_convert_bytes_back w 23 9 5 ad c l Try.underlying23 Try.underlying5 Try.underlying9 (fun j hj => ?_)
    obtain ⟨ad', e, hc⟩ := h j (.int .u8 (l[j].toNat : Int)) (by simp [bv, List.getElem?_eq_getElem hj])
    injection e with e
    subst e
    exact hc
theorem own_conv {w : World} {base : Nat} {A : Option Addr} {c : Nat} {l : List UInt8} (h : w.ownsRow base 5 1 (.slice A l.length c) l.length (bv l)) :
    (convert 23 9 (.slice A l.length c)).run Try.prog w = .ok (.string ⟨l.toArray⟩) w := run_conv (own_at h)

/-- a literal of bytes -/
theorem at_lit (w : World) (l : List UInt8) (cs : Array Value) (h : cs.toList = bv l) : At (w.alloc (.cells cs 5)) (some ⟨w.heap.size, 0, none⟩) (bv l) := fun j u hj => by
  refine ⟨_, rfl, ?_⟩
  rw [add0, World.cell?_alloc_new, ← Array.getElem?_toList, h]
  exact hj

set_option maxRecDepth 100000 in
set_option maxHeartbeats 2000000 in
theorem known_any (w : World) : Calls Try.prog 18 #[] w (fun e w' => e = .returned (.bool true) ∧ Below w.heap.size w w') := by
  have H1 : At (w.alloc (.cells #[.int .u8 128, .int .u8 1, .int .u8 2, .int .u8 97, .int .u8 98] 5)) (some ⟨w.heap.size, 0, none⟩) (bv [128, 1, 2, 97, 98]) := at_lit w _ _ rfl
  go_enter Try.func18, Try.ntmps18
  go_wp2_with fail
  refine (open_any _ 5 [128, 1, 2, 97, 98] _ H1 (by simp)).mono ?_
  rintro e w1 ⟨g, ad, c, rfl, hr, hg1, hg2, hb⟩
  have HB := Lib.hid (Bl.step ((Below.refl w.heap.size w).alloc (Nat.le_refl _) _) hb)
  have G1 : w.heap.size ≤ g := by simp at hg1; omega
  clear hb hg1 hg2 H1
  go_wp2_with fail
  refine (rdNumber_ok _ _ _ _ _ _ hr (x := 128) (k := 2) (by decide +kernel)).mono ?_
  rintro e w2 ⟨rfl, hr2, hgr⟩
  have HB2 := Lib.hid (Bl.grown HB.out hgr (fun k hk => by injection hk with hk; omega))
  clear hr hgr HB
  go_wp2_with fail
  refine (rdBytes_ok _ _ _ _ _ _ hr2 2 (by omega) (x := 2) (k := 1) (by decide +kernel) (by omega) (by simp)).mono ?_
  rintro e w3 ⟨b, c', rfl, ho, hr3, hgr⟩
  rw [show (List.take 2 (List.drop (0 + 2 + 1) [128, 1, 2, 97, (98 : UInt8)])) = [97, 98] from rfl] at *
  have HB := Lib.hid (Bl.grown HB2.out hgr (fun k hk => by injection hk with hk; omega))
  clear hr2 hgr HB2
  go_wp2_with fail
  have H1 : At (w3.alloc (.cells #[.int .u8 128, .int .u8 0] 5)) (some ⟨w3.heap.size, 0, none⟩) (bv [128, 0]) := at_lit w3 _ _ rfl
  refine (open_any _ 2 [128, 0] _ H1 (by simp)).mono ?_
  rintro e w4 ⟨g2, ad2, c2, rfl, hr4, hg1, hg2, hb⟩
  have hb4 := Bl.step ((Below.refl w3.heap.size w3).alloc (Nat.le_refl _) _) hb
  go_wp2_with fail
  refine (rdNumber_no _ _ _ _ _ _ hr4 (by decide +kernel)).mono ?_
  rintro e w5 ⟨rfl, hr5, hgr⟩
  have hb5 := Bl.grown hb4 hgr (fun k hk => by injection hk with hk; simp at hg1; omega)
  have ho5 := own_below ho hb5
  have hr5' := hr3.below hb5
  have HB5 := Lib.hid (Bl.step HB.out hb5)
  have k1 : (convert 23 9 (.slice (some ⟨b, 0, none⟩) 2 c')).run Try.prog w5 = .ok (.string ⟨#[97, 98]⟩) w5 := own_conv ho5
  clear H1 hb hb4 hgr hb5 HB ho hr3 hr4 hr5 ho5 hg1 hg2
  go_wp2_with fail
  refine (num_any _ _).mono ?_
  rintro e w' ⟨rfl, rfl⟩
  go_wp2_with fail
  refine (num_any _ _).mono ?_
  rintro e w' ⟨rfl, rfl⟩
  go_wp2_with fail
  refine (left_yes _ _ _ _ _ _ hr5').mono ?_
  rintro e w' ⟨rfl, n, rfl⟩
  go_wp2_with fail
  refine (end_yes _ _ _ _ _ _ (hr5'.drewN n)).mono ?_
  rintro e w' ⟨rfl, n2, rfl⟩
  rw [show endE [128, 1, 2, 97, (98 : UInt8)] (0 + 2 + 1 + 2) = 0 from rfl]
  go_wp2_with fail
  refine (num_any _ _).mono ?_
  rintro e w' ⟨rfl, rfl⟩
  go_wp2_with fail
  refine (num_any _ _).mono ?_
  rintro e w' ⟨rfl, rfl⟩
  go_wp2_with fail
  refine (signed_any (-1) (by unfold I64; omega) _).mono ?_
  rintro e w6 ⟨b6, c6, rfl, ho6, hb6⟩
  rw [show enc (fold (-1)) = [1] by rw [show fold (-1) = 1 from rfl, enc_small (by omega)]; rfl] at *
  have k6 : (convert 23 9 (.slice (some ⟨b6, 0, none⟩) 1 c6)).run Try.prog w6 = .ok (.string ⟨#[1]⟩) w6 := own_conv ho6
  have HB6 := Lib.hid (Bl.step (Bl.drewN HB5.out _) hb6)
  clear ho6 hb6 HB5 hr5' k1
  go_wp2_with fail
  refine (number_any 300 (by unfold U64; omega) _).mono ?_
  rintro e w7 ⟨b7, c7, rfl, ho7, hb7⟩
  rw [show enc 300 = [172, 2] by rw [enc_big (by omega), enc_small (by omega)]; rfl] at *
  have k7 : (convert 23 9 (.slice (some ⟨b7, 0, none⟩) 2 c7)).run Try.prog w7 = .ok (.string ⟨#[172, 2]⟩) w7 := own_conv ho7
  have HB7 := Lib.hid (HB6.out.trans (hb7.mono HB6.out.size))
  clear ho7 hb7 HB6 k6
  go_wp2_with fail
  go_ret
  exact ⟨rfl, HB7.out⟩
end Go.Proofs.Ytemmdlanidepbaa
