/- Contract of millpondref18.ReadDatagram; SameDatagram of one and the same. -/
import Derived.Test.YtemmdlanidepbaaDoorDgRead2
import Derived.Test.YtemmdlanidepbaaDoorDgMayR
import Derived.Test.YtemmdlanidepbaaDoorRefRead
namespace Go.Proofs.YtemmdlanidepbaaDoor
open Go.RowKit
set_option linter.unusedSimpArgs false
set_option maxRecDepth 100000

/-! ### what is read is what would be put -/
theorem rdNum_form {l : List UInt8} {pos : Nat} {z : Int} {p : Nat} (hp : pos ≤ l.length) (h : rdNum l pos = some (z, p)) : p ≤ l.length ∧ l.take p = l.take pos ++ enc z.toNat := by
  unfold rdNum at h
  split at h
  · cases h
  · rename_i x k hd
    split at h
    · injection h with h
      injection h with h1 h2
      subst h1 h2
      obtain ⟨h3, h4⟩ := dec_take hd
      have hl := congrArg List.length h3
      rw [List.length_take, List.length_drop, ← h4] at hl
      refine ⟨by omega, ?_⟩
      rw [List.take_add, h3]
      simp
    · cases h
theorem rdB256_form {l : List UInt8} {pos : Nat} {b : List UInt8} {p : Nat} (h : rdB256 l pos = some (b, p)) : p ≤ l.length ∧ l.take p = l.take pos ++ encB b := by
  unfold rdB256 at h
  split at h
  · cases h
  · rename_i x k hd
    split at h
    · rename_i hx
      injection h with h
      injection h with h1 h2
      subst h1 h2
      obtain ⟨h3, h4⟩ := dec_take hd
      have hl : ((l.drop (pos + k)).take x).length = x := by rw [List.length_take, List.length_drop]; omega
      refine ⟨hx.2, ?_⟩
      unfold encB
      rw [hl, List.take_add, List.take_add, h3, List.append_assoc]
    · cases h
theorem parseD_form {l : List UInt8} {d : Dg} {p : Nat} (h : parseD l = some (d, p)) : p ≤ l.length ∧ l.take p = putD d := by
  unfold parseD at h
  repeat' split at h
  all_goals try (cases h; done)
  rename_i x1 a p1 h1 x2 b p2 h2 x3 c p3 h3 x4 d4 p4 h4 x5 e p5 h5 x6 body p6 h6
  injection h with h
  injection h with h hp
  subst h hp
  obtain ⟨l1, t1⟩ := rdNum_form (Nat.zero_le _) h1
  obtain ⟨l2, t2⟩ := rdNum_form l1 h2
  obtain ⟨l3, t3⟩ := rdNum_form l2 h3
  obtain ⟨l4, t4⟩ := rdNum_form l3 h4
  obtain ⟨l5, t5⟩ := rdNum_form l4 h5
  obtain ⟨l6, t6⟩ := rdB256_form h6
  refine ⟨l6, ?_⟩
  rw [t6, t5, t4, t3, t2, t1]
  simp [putD, numsD, encL]
theorem putD_whole {l : List UInt8} {d : Dg} {p : Nat} (h : parseD l = some (d, p)) : putD d = l ↔ ¬ p < l.length := by
  obtain ⟨h1, h2⟩ := parseD_form h
  constructor
  · intro e hlt
    rw [e] at h2
    have := congrArg List.length h2
    rw [List.length_take] at this
    omega
  · intro hlt
    rw [← h2, List.take_of_length_le (by omega)]
/-- what was put is read -/
theorem rdB256_put {l r b : List UInt8} {pos : Nat} (hb : b.length ≤ 256) (hl : l.drop pos = encB b ++ r) (hp : pos ≤ l.length) : rdB256 l pos = some (b, pos + (encB b).length) := by
  have hlen := congrArg List.length hl
  unfold encB at hl hlen ⊢
  rw [List.length_drop] at hlen
  simp only [List.length_append] at hlen
  have hd : dec 0 0 (l.drop pos) = some (b.length, (enc b.length).length) := by
    rw [hl, List.append_assoc]
    exact dec_enc (by unfold U64; omega) _
  have ht : (l.drop (pos + (enc b.length).length)).take b.length = b := by
    rw [← List.drop_drop, hl, List.append_assoc, List.drop_left, List.take_left]
  unfold rdB256
  rw [hd]
  simp only
  rw [if_pos ⟨hb, by omega⟩, ht, List.length_append, Nat.add_assoc]
theorem parseD_put {d : Dg} (h : mayD d = true) : parseD (putD d) = some (d, (putD d).length) := by
  obtain ⟨hn, hb⟩ := boundsD h
  obtain ⟨fr, dst, vw, sq, ak, body⟩ := d
  simp only [numsD, List.mem_cons, List.not_mem_nil, or_false] at hn hb
  have b1 := hn fr (by simp)
  have b2 := hn dst (by simp)
  have b3 := hn vw (by simp)
  have b4 := hn sq (by simp)
  have b5 := hn ak (by simp)
  have e : putD ⟨fr, dst, vw, sq, ak, body⟩ = enc fr.toNat ++ (enc dst.toNat ++ (enc vw.toNat ++ (enc sq.toNat ++ (enc ak.toNat ++ encB body)))) := by simp [putD, numsD, encL]
  rw [e]
  generalize hL : enc fr.toNat ++ (enc dst.toNat ++ (enc vw.toNat ++ (enc sq.toNat ++ (enc ak.toNat ++ encB body)))) = L
  have d0 : L.drop 0 = enc fr.toNat ++ (enc dst.toNat ++ (enc vw.toNat ++ (enc sq.toNat ++ (enc ak.toNat ++ encB body)))) := by rw [← hL]; rfl
  have d1 : L.drop (0 + (enc fr.toNat).length) = enc dst.toNat ++ (enc vw.toNat ++ (enc sq.toNat ++ (enc ak.toNat ++ encB body))) := by rw [← List.drop_drop, d0, List.drop_left]
  have d2 : L.drop (0 + (enc fr.toNat).length + (enc dst.toNat).length) = enc vw.toNat ++ (enc sq.toNat ++ (enc ak.toNat ++ encB body)) := by rw [← List.drop_drop, d1, List.drop_left]
  have d3 : L.drop (0 + (enc fr.toNat).length + (enc dst.toNat).length + (enc vw.toNat).length) = enc sq.toNat ++ (enc ak.toNat ++ encB body) := by rw [← List.drop_drop, d2, List.drop_left]
  have d4 : L.drop (0 + (enc fr.toNat).length + (enc dst.toNat).length + (enc vw.toNat).length + (enc sq.toNat).length) = enc ak.toNat ++ encB body := by rw [← List.drop_drop, d3, List.drop_left]
  have d5 : L.drop (0 + (enc fr.toNat).length + (enc dst.toNat).length + (enc vw.toNat).length + (enc sq.toNat).length + (enc ak.toNat).length) = encB body ++ [] := by rw [← List.drop_drop, d4, List.drop_left, List.append_nil]
  have hlen := congrArg List.length hL
  simp only [List.length_append] at hlen
  unfold parseD
  rw [rdNum_enc b1.1 b1.2 d0]
  simp only
  rw [rdNum_enc b2.1 b2.2 d1]
  simp only
  rw [rdNum_enc b3.1 b3.2 d2]
  simp only
  rw [rdNum_enc b4.1 b4.2 d3]
  simp only
  rw [rdNum_enc b5.1 b5.2 d4]
  simp only
  rw [rdB256_put hb d5 (by omega)]
  simp only
  congr 2
  omega
theorem answerD_put {d : Dg} (h : mayD d = true) (hl : (putD d).length ≤ 512) : answerD (putD d) = (d, 0) := by
  unfold answerD readD
  rw [if_neg (by omega), parseD_put h]
  simp [h]
theorem putD_len {d : Dg} (h : mayD d = true) : (putD d).length ≤ 320 := by
  obtain ⟨hn, hb⟩ := boundsD h
  have h1 := encL_len (numsD d) hn
  have h2 : (numsD d).length = 5 := rfl
  have h3 := enc_len (n := d.body.length) (by unfold U64; omega)
  unfold putD encB
  simp only [List.length_append]
  omega
/-- what the document answers -/
theorem answerD_ref {l : List UInt8} (hl : l.length ≤ 512) : answerD l = match parseD l with
    | some (d, _) => if mayD d = true ∧ putD d = l then (d, 0) else (noD, 4)
    | none => (noD, 4) := by
  unfold answerD readD
  rw [if_neg (by omega)]
  cases hp : parseD l with
  | none => rfl
  | some r =>
    obtain ⟨d, p⟩ := r
    have hw := putD_whole hp
    simp only
    by_cases hlt : p < l.length
    · have : ¬ putD d = l := fun e => hw.1 e hlt
      simp [hlt, this]
    · have := hw.2 hlt
      cases hm : mayD d <;> simp [hlt, this, hm]
/-! ### what is read, step by step -/
def pD5 (a b c d e : Int) (l : List UInt8) (p : Nat) : Option (Dg × Nat) := match rdB256 l p with
  | none => none
  | some (body, p6) => some (⟨a, b, c, d, e, body⟩, p6)
def pD4 (a b c d : Int) (l : List UInt8) (p : Nat) : Option (Dg × Nat) := match rdNum l p with
  | none => none
  | some (z, q) => pD5 a b c d z l q
def pD3 (a b c : Int) (l : List UInt8) (p : Nat) : Option (Dg × Nat) := match rdNum l p with
  | none => none
  | some (z, q) => pD4 a b c z l q
def pD2 (a b : Int) (l : List UInt8) (p : Nat) : Option (Dg × Nat) := match rdNum l p with
  | none => none
  | some (z, q) => pD3 a b z l q
def pD1 (a : Int) (l : List UInt8) (p : Nat) : Option (Dg × Nat) := match rdNum l p with
  | none => none
  | some (z, q) => pD2 a z l q
def pD0 (l : List UInt8) (p : Nat) : Option (Dg × Nat) := match rdNum l p with
  | none => none
  | some (z, q) => pD1 z l q
theorem parseD_0 (l : List UInt8) : parseD l = pD0 l 0 := rfl
def NextG (w : World) (x g : Nat) (A : Option Addr) (c : Nat) (l : List UInt8) (pos : Nat) (bad : Bool) (e : Ending) (w' : World) : Prop :=
  ∃ z p b, e = .returned (.int .i64 z) ∧ XR w' x g A c l p b ∧ Hid (Ex (fun k => k = g ∨ k = x) w w') ∧ Hid (b = true ∧ rdNum l pos = none ∨ b = bad ∧ rdNum l pos = some (z, p))
theorem nextG_any (w : World) (x g : Nat) (A : Option Addr) (c : Nat) (l : List UInt8) (pos : Nat) (bad : Bool) (h : XR w x g A c l pos bad) : Calls Tryd.prog 59 #[.pointer (some ⟨x, 0, none⟩)] w (NextG w x g A c l pos bad) := by
  cases hr : rdNum l pos with
  | none =>
    refine (xnum_none w x g A c l pos bad h hr).mono ?_
    rintro e w' ⟨rfl, p, h1, h2⟩
    exact ⟨0, p, true, rfl, h1, h2, (Or.inl ⟨rfl, hr⟩)⟩
  | some r =>
    obtain ⟨z, p⟩ := r
    refine (xnum_some w x g A c l pos bad h hr).mono ?_
    rintro e w' ⟨rfl, h1, h2⟩
    exact ⟨z, p, bad, rfl, h1, h2, (Or.inr ⟨rfl, hr⟩)⟩
def NextB6 (w : World) (g : Nat) (A : Option Addr) (c : Nat) (l : List UInt8) (pos : Nat) (e : Ending) (w' : World) : Prop :=
  ∃ v news p q, e = .returned (.tuple #[v, .int .i64 q]) ∧ w'.ownsRow w.heap.size 5 1 v news.length (bv news) ∧ RRdr w' g A c l p ∧ Hid (w.grownBy w' (some g)) ∧ Hid (news.length ≤ 256 ∧ ((q = 3 ∨ q = 4) ∧ rdB256 l pos = none ∨ q = 0 ∧ rdB256 l pos = some (news, p)))
theorem nextB6_any (w : World) (g : Nat) (A : Option Addr) (c : Nat) (l : List UInt8) (pos : Nat) (h : RRdr w g A c l pos) : Calls Tryd.prog 61 #[.pointer (some ⟨g, 0, none⟩), .int .i64 256] w (NextB6 w g A c l pos) := by
  have key : rdB256 l pos = rdB256 l pos := rfl
  conv at key => rhs; unfold rdB256
  cases hd : dec 0 0 (l.drop pos) with
  | none =>
    rw [hd] at key
    refine (rrBytes_no w g A c l pos h 256 hd).mono ?_
    rintro e w' ⟨rfl, h1, h2⟩
    exact ⟨_, [], _, _, rfl, World.ownsRow_nil _ _ _ _, h1, h2, by decide, Or.inl ⟨.inr rfl, key⟩⟩
  | some r =>
    obtain ⟨y, k⟩ := r
    rw [hd] at key
    simp only at key
    by_cases hy : y ≤ 256
    · by_cases hs : pos + k + y ≤ l.length
      · rw [if_pos ⟨hy, hs⟩] at key
        refine (rrBytes_ok w g A c l pos h 256 (by decide) hd (by omega) hs).mono ?_
        rintro e w' ⟨v, rfl, ho, h1, h2⟩
        exact ⟨v, _, _, _, rfl, ho, h1, h2, by rw [List.length_take]; omega, Or.inr ⟨rfl, key⟩⟩
      · rw [if_neg (fun e => hs e.2)] at key
        refine (rrBytes_short w g A c l pos h 256 (by decide) hd (by omega) (by omega)).mono ?_
        rintro e w' ⟨rfl, h1, h2⟩
        exact ⟨_, [], _, _, rfl, World.ownsRow_nil _ _ _ _, h1, h2, by decide, Or.inl ⟨.inr rfl, key⟩⟩
    · rw [if_neg (fun e => hy e.1)] at key
      refine (rrBytes_long w g A c l pos h 256 (by decide) (by decide) hd (by omega)).mono ?_
      rintro e w' ⟨rfl, h1, h2⟩
      exact ⟨_, [], _, _, rfl, World.ownsRow_nil _ _ _ _, h1, h2, by decide, Or.inl ⟨.inl rfl, key⟩⟩
end Go.Proofs.YtemmdlanidepbaaDoor
