/- The walk of MessageReads. -/
import Derived.Test.YtemmdlanidepbaaDoorKnown18
import Derived.Test.YtemmdlanidepbaaDoorRefRead2
namespace Go.Proofs.YtemmdlanidepbaaDoor
open Go.RowKit
set_option linter.unusedSimpArgs false
set_option maxRecDepth 100000

theorem stop_to18 {P : Program} {ops : Array Oper} {rest : List Oper} {o : Oper} {a : Act} {w : World} {Q : Exit → Act → World → Prop} (h : Hid (wpList P ops Q (o :: rest) a w)) : wpList P ops Q (o :: rest) a w := h
theorem pre_at18 {w : World} {A : Option Addr} {l m : List UInt8} (h : At w A (bv (l ++ m))) : At w A (bv l) := fun j u hj => h j u (by
  rw [bv_app, List.getElem?_append_left (List.getElem?_eq_some_iff.1 hj).1]
  exact hj)
theorem refRead_long (A : Option Addr) (c : Nat) (l : List UInt8) (w : World) (hl : 256 < l.length) (hl2 : l.length ≤ 140737488355328) : Calls Tryd.prog 16 #[.slice A l.length c] w (ReadR w (Tryd.zeroCells27, 3)) := by
  have hx0 := heap_alloc_new w (.cells Tryd.zeroCells27 27)
  have HB0 : Hid (Below w.heap.size w (w.alloc (.cells Tryd.zeroCells27 27))) := Lib.hid ((Below.refl _ _).alloc (Nat.le_refl _) _)
  have HX0 := Lib.hid hx0
  clear hx0
  go_enter Tryd.func16, Tryd.ntmps16
  go_wp2_with (refine wpList_store_row rfl 27 (.tmp 2) (.tmp 16) rfl w.heap.size Tryd.zeroCells27 rfl rfl 27 _ HX0.out zero_info rfl zero_all ?_)
  exact refRead_end rfl rfl rfl zero_size (setRow_at HX0.out) (Bl.grown HB0.out (setRow_grown _ _ _) (fun k hk => by injection hk with hk; omega))
theorem refRead_any (A : Option Addr) (c : Nat) (l : List UInt8) (w : World) (hA : At w A (bv l)) (hl : l.length ≤ 140737488355328) (hc : l.length ≤ c) (hblk : ∀ ad, A = some ad → ad.block < w.heap.size) :
    Calls Tryd.prog 16 #[.slice A l.length c] w (ReadR w (readV l)) := by
  by_cases h : 256 < l.length
  · have e : readV l = (Tryd.zeroCells27, 3) := by unfold readV; rw [if_pos h]
    rw [e]
    exact refRead_long A c l w h hl
  · exact refRead_walk A c l w hA (by omega) hc hblk
theorem zero_msg : Tryd.zeroCells27 = mcells (bareM 0) := by kernel_rfl
theorem readV_msg (l : List UInt8) : ∃ m : Msg, m.Ok ∧ (readV l).1 = mcells m := by
  have h0 : (bareM 0).Ok := bareM_ok (by unfold I64; omega)
  unfold readV
  split
  · exact ⟨_, h0, zero_msg⟩
  · split
    · rename_i m h
      refine ⟨m, ?_, rfl⟩
      unfold readM at h
      split at h
      · rename_i m' p hp
        split at h
        · cases h
        · split at h
          · injection h with h
            subst h
            exact parse_ok hp
          · cases h
      · cases h
    · exact ⟨_, h0, zero_msg⟩
set_option maxHeartbeats 8000000 in
theorem reads18_short (w : World) (A : Option Addr) (c : Nat) (l : List UInt8) (hA : At w A (bv l)) (hl : l.length ≤ 9000) (hc : l.length ≤ c) (hlt : ∀ ad, A = some ad → ad.block < w.heap.size) :
    Calls Tryd.prog 4 #[.slice A l.length c] w (fun e w' => e = .returned (.bool true) ∧ Below w.heap.size w w') := by
  have hl9 : ¬ 9000 < l.length := by omega
  go_enter Tryd.func4, Tryd.ntmps4
  go_wp2_with (at_builtin; refine stop_to18 ?_)
  refine Lib.hid ?_
  refine app_rows w rfl _ _ 28 rfl w.heap.size 5 (.int .u8 0) 1 1 Tryd.underlying28 infoU8 rfl (by omega) (.slice none 0 0) 0 [] rfl (World.ownsRow_nil _ _ _ _) A l.length c (bv l) rfl (by simp [bv_len]) hA (bv_one _) (by simp only [maxLen]; omega) (by omega) (Nat.le_refl _) ?_
  intro v1 w1 ho1 hg1 hv1
  rw [Nat.zero_add, List.nil_append] at ho1
  have hB1 : Below w.heap.size w w1 := Bl.grown (Below.refl _ _) hg1 (fun k hk => by cases hk)
  clear hv1 hg1
  go_wp2_with (at_builtin; refine app_byte rfl _ _ 28 rfl w.heap.size 5 Tryd.underlying28 infoU8 v1 l rfl ho1 _ 119 rfl rfl (by omega) hB1.size ?_; intro v2 w2 ho2 hg2 hv2)
  have HB2 := Lib.hid (Bl.grown hB1 hg2 (fun k hk => (ho1.lt k hk).1))
  clear hg2 hv2 ho1 hB1
  obtain ⟨g0, c0, rfl⟩ := own_pos ho2 (by simp)
  have hc0 : l.length + 1 ≤ c0 := by
    obtain ⟨_, _, e, hle⟩ := own_form ho2
    injection e with _ _ e
    simp at hle
    omega
  have hlc : l.length ≤ c0 := by omega
  have HO2 := Lib.hid ho2
  clear ho2
  obtain ⟨lm, hlm⟩ : ∃ lm, lm = l ++ [119] := ⟨_, rfl⟩
  have hll : lm.length = l.length + 1 := by rw [hlm]; simp
  have HLM := Lib.hid hlm
  rw [← hlm] at HO2 ⊢
  rw [hll] at HO2 ⊢
  clear hlm
  go_wp2_with fail
  rw [cut_bytes _ _ _ _ _ hlc]
  go_wp2_with fail
  have HAm : At w2 (some ⟨g0, 0, none⟩) (bv l) := pre_at18 (by rw [← HLM.out]; exact own_at HO2.out)
  refine (msg_read (some ⟨g0, 0, none⟩) c0 l _ HAm (by omega)).mono ?_
  rintro e w3 ⟨rfl, hb3⟩
  have hO3 := own_below HO2.out hb3
  rw [← hll] at hO3
  have HA3 := Lib.hid (own_at hO3)
  have HB3 := Lib.hid (Bl.step HB2.out hb3)
  obtain ⟨m, hm, hmc⟩ := readV_msg l
  have HS := Lib.hid (mcells_size hm)
  have HAL := Lib.hid (mcells_all m)
  have HEQ := Lib.hid (fun u => msg_eq u m m hm hm)
  rw [msgB_self] at HEQ
  have HRR := Lib.hid (fun (u : World) (h1 : At u A (bv l)) (h2 : ∀ ad, A = some ad → ad.block < u.heap.size) => refRead_any A c l u h1 (by omega) hc h2)
  rw [hmc]
  unfold ReadR at HRR
  rw [hmc] at HRR
  clear hmc HB2 HO2 hb3 hO3 HAm
  generalize mcells m = mc at *
  generalize (readV l).2 = er at *
  go_upto_region 5 with (refine store_new HS.out HAL.out rfl (.tmp 4) (.tmp 22) rfl rfl rfl ?_)
  have hba := (Below.refl w3.heap.size w3).alloc (Nat.le_refl _) (.cells mc 27)
  have HB4 := Lib.hid (Bl.step HB3.out hba)
  have HA4 := Lib.hid (HA3.out.mono hba)
  have HX4 := Lib.hid (heap_alloc_new w3 (.cells mc 27))
  have hx4 : w3.heap.size < (w3.alloc (.cells mc 27)).heap.size := by simp
  clear hba HB3 HA3
  generalize w3.alloc (.cells mc 27) = w4 at *
  generalize w3.heap.size = g3 at *
  go_wp2_with fail
  refine (HRR.out w4 (hA.mono HB4.out) (fun ad e => Nat.lt_of_lt_of_le (hlt ad e) HB4.out.size)).mono ?_
  rintro e w5 ⟨rfl, hb5⟩
  have HB5 := Lib.hid (Bl.step HB4.out hb5)
  have HA5 := Lib.hid (HA4.out.mono hb5)
  have HX5 := Lib.hid ((hb5.block _ hx4).trans HX4.out)
  clear hb5 HB4 HA4 HX4 hx4 HRR
  go_upto_region 6 with (refine store_new HS.out HAL.out rfl (.tmp 6) (.tmp 27) rfl rfl rfl ?_)
  have hba := (Below.refl w5.heap.size w5).alloc (Nat.le_refl _) (.cells mc 27)
  have HB6 := Lib.hid (Bl.step HB5.out hba)
  have HA6 := Lib.hid (HA5.out.mono hba)
  have HX6 := Lib.hid ((hba.block _ (Array.getElem?_eq_some_iff.1 HX5.out).1).trans HX5.out)
  have HY6 := Lib.hid (heap_alloc_new w5 (.cells mc 27))
  clear hba HB5 HA5 HX5
  generalize w5.alloc (.cells mc 27) = w6 at *
  generalize w5.heap.size = g5 at *
  have heq := HEQ.out
  have k1 := convert_at w6 _ c0 lm HA6.out
  rw [hll] at k1
  have k2 := convert_at w6 A c l (hA.mono HB6.out)
  have hbig : ¬ 9223372036854775807 < l.length + 1 := by omega
  have hcat : (⟨l.toArray⟩ : ByteArray) ++ ⟨#[119]⟩ = ⟨lm.toArray⟩ := by
    rw [HLM.out]
    apply ByteArray.ext
    simp
  go_wp2_with (first | (refine load_msg HS.out rfl (.tmp 4) rfl g3 rfl HX6.out ?_) | (refine load_msg HS.out rfl (.tmp 6) rfl g5 rfl HY6.out ?_) | (go_at_call 12; refine (num18_any _ _).mono ?_; rintro e w' ⟨rfl, rfl⟩))
  refine (known18_any _).mono ?_
  rintro e w7 ⟨rfl, hb7⟩
  have HB7 := Lib.hid (Bl.step HB6.out hb7)
  clear hb7
  go_wp2_with fail
  go_ret
  exact ⟨rfl, HB7.out⟩
theorem reads18_walk (w : World) (A : Option Addr) (c : Nat) (l : List UInt8) (hA : At w A (bv l)) (hl : l.length ≤ 140737488351232) (hc : l.length ≤ c) (hlt : ∀ ad, A = some ad → ad.block < w.heap.size) :
    Calls Tryd.prog 4 #[.slice A l.length c] w (fun e w' => e = .returned (.bool true) ∧ Below w.heap.size w w') := by
  by_cases h : 9000 < l.length
  · go_enter Tryd.func4, Tryd.ntmps4
    go_wp2_with fail
    refine (known18_any _).mono ?_
    rintro e w7 ⟨rfl, hb7⟩
    go_wp2_with fail
    go_ret
    exact ⟨rfl, hb7⟩
  · exact reads18_short w A c l hA (by omega) hc hlt
end Go.Proofs.YtemmdlanidepbaaDoor
