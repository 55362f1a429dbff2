/- Readers and functions that are not there: contracts, and the law WireNil's walk. -/
import Derived.Test.YtemmdlanidepbaaKnown
namespace Go.Proofs.Ytemmdlanidepbaa
open Go.RowKit

/-- p is no reader -/
def NotThere (w : World) (p : Value) : Prop := Calls Try.prog 38 #[p] w (fun e w' => e = .returned (.bool false) ∧ w = w')
theorem NotThere.out {w : World} {p : Value} (h : NotThere w p) : Calls Try.prog 38 #[p] w (fun e w' => e = .returned (.bool false) ∧ w = w') := h
theorem notThere_nil (w : World) : NotThere w (.pointer none) := by
  unfold NotThere
  go_enter Try.func38, Try.ntmps38
  go_wp2
  go_ret
  exact ⟨rfl, rfl⟩
theorem notThere_zero (w : World) (g n c : Nat) (h0 : w.cell? ⟨g, 0, none⟩ = some (.slice none n c)) : NotThere w (.pointer (some ⟨g, 0, none⟩)) := by
  unfold NotThere
  go_enter Try.func38, Try.ntmps38
  go_wp2
  go_ret
  exact ⟨rfl, rfl⟩

section
variable (w : World) (p : Value) (h : NotThere w p)
include h
theorem number_nil : Calls Try.prog 20 #[p] w (fun e w' => e = .returned (.tuple #[.int .u64 0, .int .i64 1]) ∧ w = w') := by
  go_enter Try.func20, Try.ntmps20
  go_wp2_with fail
  go_step3
  go_wp2_with fail
  refine h.out.mono ?_
  rintro e w' ⟨rfl, rfl⟩
  go_wp2_with fail
  (try rw [Exit.noGoto_ret])
  go_ret2
  exact ⟨rfl, rfl⟩
theorem signed_nil : Calls Try.prog 21 #[p] w (fun e w' => e = .returned (.tuple #[.int .i64 0, .int .i64 1]) ∧ w = w') := by
  go_enter Try.func21, Try.ntmps21
  go_wp2_with fail
  refine (number_nil w p h).mono ?_
  rintro e w' ⟨rfl, rfl⟩
  go_wp2_with fail
  rw [show bits .xor .i64 0 (wrap64 (-wrap64 (bits .and .u64 0 1))) = 0 by unfold wrap64; decide +kernel]
  go_ret2
  exact ⟨rfl, rfl⟩
theorem flag_nil : Calls Try.prog 23 #[p] w (fun e w' => e = .returned (.tuple #[.bool false, .int .i64 1]) ∧ w = w') := by
  go_enter Try.func23, Try.ntmps23
  go_wp2_with fail
  refine h.out.mono ?_
  rintro e w' ⟨rfl, rfl⟩
  go_wp2_with fail
  go_ret2
  exact ⟨rfl, rfl⟩
theorem bytes_nil (m : Int) : Calls Try.prog 22 #[p, .int .i64 m] w (fun e w' => e = .returned (.tuple #[.slice none 0 0, .int .i64 1]) ∧ w = w') := by
  go_enter Try.func22, Try.ntmps22
  go_wp2_with fail
  refine h.out.mono ?_
  rintro e w' ⟨rfl, rfl⟩
  go_wp2_with fail
  go_ret2
  exact ⟨rfl, rfl⟩
theorem left_nil : Calls Try.prog 26 #[p] w (fun e w' => e = .returned (.int .i64 0) ∧ w = w') := by
  go_enter Try.func26, Try.ntmps26
  go_wp2_with fail
  refine h.out.mono ?_
  rintro e w' ⟨rfl, rfl⟩
  go_wp2_with fail
  go_ret
  exact ⟨rfl, rfl⟩
theorem end_nil : Calls Try.prog 25 #[p] w (fun e w' => e = .returned (.int .i64 1) ∧ w = w') := by
  go_enter Try.func25, Try.ntmps25
  go_wp2_with fail
  refine h.out.mono ?_
  rintro e w' ⟨rfl, rfl⟩
  go_wp2_with fail
  go_ret
  exact ⟨rfl, rfl⟩
theorem nothing_nil : Calls Try.prog 36 #[p] w (fun e w' => e = .returned (.bool true) ∧ w = w') := by
  go_enter Try.func36, Try.ntmps36
  go_wp2_with (first | (go_at_call 20; refine (number_nil w p h).mono ?_; rintro e w' ⟨rfl, rfl⟩) | (go_at_call 21; refine (signed_nil w p h).mono ?_; rintro e w' ⟨rfl, rfl⟩) | (go_at_call 23; refine (flag_nil w p h).mono ?_; rintro e w' ⟨rfl, rfl⟩) | (go_at_call 22; refine (bytes_nil w p h _).mono ?_; rintro e w' ⟨rfl, rfl⟩) | (go_at_call 26; refine (left_nil w p h).mono ?_; rintro e w' ⟨rfl, rfl⟩) | (go_at_call 25; refine (end_nil w p h).mono ?_; rintro e w' ⟨rfl, rfl⟩) | (go_at_call 24; refine (num_any _ _).mono ?_; rintro e w' ⟨rfl, rfl⟩))
  go_ret
  exact ⟨rfl, rfl⟩
theorem take2_nil (m : Int) (f : Value) : Calls Try.prog 29 #[p, .int .i64 m, f] w (fun e w' => e = .returned (.tuple #[.slice none 0 0, .int .i64 1]) ∧ w = w') := by
  go_enter Try.func29, Try.ntmps29
  go_wp2_with fail
  refine h.out.mono ?_
  rintro e w' ⟨rfl, rfl⟩
  go_wp2_with fail
  go_ret2
  exact ⟨rfl, rfl⟩
end

theorem fn_nil (w : World) : (binOp .eql 68 .nilFunc .nilFunc).run Try.prog w = .ok (.bool true) w := by kernel_rfl
theorem fn_not (w : World) (f : FuncId) : (binOp .eql 68 (.func (.func f) #[] #[]) .nilFunc).run Try.prog w = .ok (.bool false) w := by kernel_rfl
theorem fn_nil2 (w : World) : (binOp .eql 93 .nilFunc .nilFunc).run Try.prog w = .ok (.bool true) w := by kernel_rfl

theorem putInt_nofn (w : World) (v : Value) : Calls Try.prog 33 #[v, .nilFunc] w (fun e w' => e = .returned (.tuple #[.slice none 0 0, .int .i64 1]) ∧ w = w') := by
  have hf := fn_nil
  go_enter Try.func33, Try.ntmps33
  go_wp2_with fail
  go_ret2
  exact ⟨rfl, rfl⟩
/-- a new row of bytes beside OK -/
def NewRowOk (w : World) (l : List UInt8) (e : Ending) (w' : World) : Prop :=
  ∃ g c, e = .returned (.tuple #[.slice (some ⟨g, 0, none⟩) l.length c, .int .i64 0]) ∧ w'.ownsRow w.heap.size 5 1 (.slice (some ⟨g, 0, none⟩) l.length c) l.length (bv l) ∧ Below w.heap.size w w'
theorem putInt_none (w : World) (f : FuncId) : Calls Try.prog 33 #[.slice none 0 0, .func (.func f) #[] #[]] w (NewRowOk w [0]) := by
  have hf := fn_not
  go_enter Try.func33, Try.ntmps33
  go_wp2_with fail
  refine (number_any 0 (by unfold U64; omega) _).mono ?_
  rintro e w7 ⟨b7, c7, rfl, ho7, hb7⟩
  rw [show enc 0 = [0] by rw [enc_small (by omega)]; rfl] at *
  go_wp2_with fail
  refine wp_loop_rounds 1 ?_
  rw [rounds_succ]
  go_wp2
  go_ret2
  exact ⟨b7, c7, rfl, ho7, hb7⟩
theorem takeInt_nofn (w : World) (g : Nat) (ad : Addr) (c : Nat) (l : List UInt8) (pos : Nat) (h : Rdr w g ad c l pos) (m : Int) : Calls Try.prog 35 #[.pointer (some ⟨g, 0, none⟩), .int .i64 m, .nilFunc] w (fun e w' => e = .returned (.tuple #[.slice none 0 0, .int .i64 1]) ∧ w = w') := by
  have h0 := h.cell0
  have hf := fn_nil2
  go_enter Try.func35, Try.ntmps35
  go_wp2_with fail
  refine (there_yes _ _ _ _ _ h0).mono ?_
  rintro e w' ⟨rfl, rfl⟩
  go_wp2_with fail
  go_ret2
  exact ⟨rfl, rfl⟩

set_option maxRecDepth 100000 in
set_option maxHeartbeats 2000000 in
theorem wireNil_walk (w : World) : Calls Try.prog 7 #[] w (fun e w' => e = .returned (.bool true) ∧ Below w.heap.size w w') := by
  go_enter Try.func7, Try.ntmps7
  go_wp2_with fail
  refine (putInt_nofn _ _).mono ?_
  rintro e w' ⟨rfl, rfl⟩
  go_wp2_with fail
  refine (putInt_none _ _).mono ?_
  rintro e w1 ⟨g1, c1, rfl, ho, hb⟩
  go_wp2_with fail
  have H1 : At (w1.alloc (.cells #[.int .u8 0] 5)) (some ⟨w1.heap.size, 0, none⟩) (bv [0]) := at_lit w1 _ _ rfl
  refine (open_any _ 1 [0] _ H1 (by simp)).mono ?_
  rintro e w2 ⟨g2, ad2, c2, rfl, hr2, _, _, hb2⟩
  have hb2' := Bl.step ((Below.refl w1.heap.size w1).alloc (Nat.le_refl _) _) hb2
  have ho2 := own_below ho hb2'
  have HB := Lib.hid (Bl.step hb hb2')
  clear hb2 hb2' hb ho H1
  go_wp2_with fail
  refine (takeInt_nofn _ _ _ _ _ _ hr2 5).mono ?_
  rintro e w' ⟨rfl, rfl⟩
  clear hr2
  go_wp2_with fail
  refine (take2_nil _ _ (notThere_nil _) _ _).mono ?_
  rintro e w' ⟨rfl, rfl⟩
  have k1 : (convert 23 9 (.slice (some ⟨g1, 0, none⟩) 1 c1)).run Try.prog w2 = .ok (.string ⟨#[0]⟩) w2 := own_conv ho2
  clear ho2
  go_wp2_with (go_at_call 24; refine (num_any _ _).mono ?_; rintro e w' ⟨rfl, rfl⟩)
  refine (nothing_nil _ _ (notThere_nil _)).mono ?_
  rintro e w' ⟨rfl, rfl⟩
  clear k1
  go_wp2_with fail
  refine (nothing_nil _ _ (notThere_zero _ _ 0 0 (by simp))).mono ?_
  rintro e w' ⟨rfl, rfl⟩
  go_wp2_with fail
  refine (known_any _).mono ?_
  rintro e w3 ⟨rfl, hb3⟩
  have HB3 := Lib.hid (Bl.step (HB.out.alloc HB.out.size _) hb3)
  clear hb3 HB
  go_wp2_with fail
  go_ret
  exact ⟨rfl, HB3.out⟩
end Go.Proofs.Ytemmdlanidepbaa
