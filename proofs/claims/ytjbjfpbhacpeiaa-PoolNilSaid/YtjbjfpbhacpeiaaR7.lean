/- The law's known. Printed by gen_r7.py. -/
import Derived.Test.YtjbjfpbhacpeiaaR6
import Derived.Test.YtjbjfpbhacpeiaaSq
namespace Go.Proofs.Ytjbjfpbhacpeiaa
open Go.RowKit
set_option linter.unusedSimpArgs false
set_option linter.unusedVariables false
set_option maxRecDepth 100000

def kL (u : Bool) (n p : Int) : Slot := some ⟨u, n, frF p⟩
def k0 : PS := S0 2
def k1 : PS := ⟨[kL true 0 1, none], 0⟩
def k2 : PS := ⟨[kL true 0 1, kL true 0 2], 0⟩
def k3 : PS := ⟨[kL false 0 1, kL false 0 2], 1⟩
def k4 : PS := ⟨[kL false 0 1, kL false 0 2], 0⟩
def k6 : PS := ⟨[kL false 0 1, kL true 0 2], 1⟩
def k8 : PS := ⟨[kL false 1 1, kL false 0 2], 1⟩
def k9 : PS := ⟨[kL false 1 1, kL false 0 2], 0⟩
def k10 : PS := ⟨[kL false 1 1, kL false 1 2], 0⟩
def k11 : PS := ⟨[none, kL false 1 2], 0⟩
def k12 : PS := ⟨[kL true 0 3, kL false 1 2], 0⟩
def kTb : List Tb := [⟨some 101, [2], []⟩, ⟨some 102, [101], [0]⟩, ⟨some 103, [102], [1]⟩, ⟨some 104, [103], [2, 1]⟩, ⟨some 105, [4, 104], [3]⟩, ⟨some 106, [105, 104], [4, 3, 3]⟩, ⟨some 107, [6, 104], [3]⟩, ⟨some 108, [107, 104], [6, 5, 3]⟩, ⟨some 109, [106, 108, 104], [5, 7, 3]⟩, ⟨some 110, [7, 104], [3]⟩, ⟨some 111, [110, 104], [9, 7, 3]⟩, ⟨some 112, [109, 111, 104], [8, 10, 3]⟩, ⟨some 113, [16, 104], [3]⟩, ⟨some 114, [113, 104], [12, 10, 3]⟩, ⟨some 115, [112, 114, 104], [11, 13, 3]⟩, ⟨some 116, [19, 104], [3]⟩, ⟨some 117, [116, 104], [15, 13, 3]⟩, ⟨some 118, [115, 117, 104], [14, 16, 3]⟩, ⟨some 119, [22, 104], [3]⟩, ⟨some 120, [119, 104], [18, 16, 3]⟩, ⟨some 121, [118, 120, 104], [17, 19, 3]⟩, ⟨some 122, [26, 104], [3]⟩, ⟨some 123, [122, 104], [21, 19, 3]⟩, ⟨some 124, [121, 123, 104], [20, 22, 3]⟩, ⟨some 125, [29, 104], [3]⟩, ⟨some 126, [125, 104], [24, 22, 3]⟩, ⟨some 127, [124, 126, 104], [23, 25, 3]⟩, ⟨some 128, [127, 104], [26, 3]⟩, ⟨some 129, [104, 128], [3, 27]⟩, ⟨some 130, [129], [28, 25]⟩, ⟨some 131, [5, 130], [29]⟩, ⟨some 132, [131, 130], [30, 29, 29]⟩, ⟨some 133, [132, 130], [31, 29]⟩, ⟨some 134, [130, 133], [29, 32]⟩, ⟨some 135, [134], [33, 31]⟩, ⟨some 136, [8, 135], [34]⟩, ⟨some 137, [136, 135], [35, 34, 34]⟩, ⟨some 138, [137, 135], [36, 34]⟩, ⟨some 139, [135, 138], [34, 37]⟩, ⟨some 140, [139], [38, 36]⟩, ⟨some 141, [9, 140], [39]⟩, ⟨some 142, [141, 140], [40, 39]⟩, ⟨some 143, [140, 142], [39, 41]⟩, ⟨some 144, [143], [42, 39]⟩, ⟨some 145, [11, 144], [43]⟩, ⟨some 146, [145, 144], [44, 43]⟩, ⟨some 147, [144, 146], [43, 45]⟩, ⟨some 148, [147], [46, 43]⟩, ⟨some 149, [13, 148], [47]⟩, ⟨some 150, [149, 148], [48, 47]⟩, ⟨some 151, [148, 150], [47, 49]⟩, ⟨some 152, [151], [50, 47]⟩, ⟨some 153, [15, 152], [51]⟩, ⟨some 154, [152], [51, 51]⟩, ⟨some 155, [153, 154, 152], [52, 53, 51]⟩, ⟨some 156, [152, 155], [51, 54]⟩, ⟨some 157, [156], [55, 53]⟩, ⟨some 158, [17, 157], [56]⟩, ⟨some 159, [158, 157], [57, 56]⟩, ⟨some 160, [157, 159], [56, 58]⟩, ⟨some 161, [160], [59, 56]⟩, ⟨some 162, [20, 161], [60]⟩, ⟨some 163, [162, 161], [61, 60]⟩, ⟨some 164, [161, 163], [60, 62]⟩, ⟨some 165, [164], [63, 60]⟩, ⟨some 166, [24, 165], [64]⟩, ⟨some 167, [166, 165], [65, 64]⟩, ⟨some 168, [165, 167], [64, 66]⟩, ⟨some 169, [168], [67, 64]⟩, ⟨some 170, [25, 169], [68]⟩, ⟨some 171, [169], [68, 68]⟩, ⟨some 172, [170, 171, 169], [69, 70, 68]⟩, ⟨some 173, [169, 172], [68, 71]⟩, ⟨some 174, [173], [72, 70]⟩, ⟨some 175, [27, 174], [73]⟩, ⟨some 176, [175, 174], [74, 73, 73]⟩, ⟨some 177, [176, 174], [75, 73]⟩, ⟨some 178, [174, 177], [73, 76]⟩, ⟨some 179, [178], [77, 75]⟩, ⟨some 180, [28, 179], [78]⟩, ⟨some 181, [180, 179], [79, 78]⟩, ⟨some 182, [179, 181], [78, 80]⟩, ⟨some 183, [182], [81, 78]⟩, ⟨some 184, [3, 183], [82]⟩, ⟨some 185, [184, 183], [83, 82, 82]⟩, ⟨some 186, [185, 183], [84, 82]⟩, ⟨some 187, [183, 186], [82, 85]⟩, ⟨some 188, [187], [86, 84]⟩, ⟨some 189, [3, 188], [87]⟩, ⟨some 190, [189, 188], [88, 87, 87]⟩, ⟨some 191, [190, 188], [89, 87]⟩, ⟨some 192, [188, 191], [87, 90]⟩, ⟨some 0, [192], [91, 89, 0, 1, 2, 3, 4, 5, 6, 7, 8, 9, 10, 11, 12, 13, 14, 15, 16, 17, 18, 19, 20, 21, 22, 23, 24, 25, 26, 27, 28, 29, 30, 31, 32, 33, 34, 35, 36, 37, 38, 39, 40, 41, 42, 43, 44, 45, 46, 47, 48, 49, 50, 51, 52, 53, 54, 55, 56, 57, 58, 59, 60, 61, 62, 63, 64, 65, 66, 67, 68, 69, 70, 71, 72, 73, 74, 75, 76, 77, 78, 79, 80, 81, 82, 83, 84, 85, 86, 87, 88, 89, 90, 91]⟩]
theorem i64_s (p : Int) (h1 : 0 ≤ p) (h2 : p ≤ 100) : I64 p := by unfold I64; omega
theorem pb_below {w wi wj : World} {b m : Nat} (hB : Below w.heap.size w wi) (hb : w.heap.size ≤ b) (hm : w.heap.size ≤ m) (hx : Ex (PB b m) wi wj) : Below w.heap.size w wj :=
  hB.trans (hx.toBelow hB.size (fun k hk => by rcases hk with rfl | rfl <;> assumption))
/-- what a row of it says -/
structure Row (w : World) (b m : Nat) (S : PS) (K : Int) (W : World) : Prop where
  pool : PoolAt W b m S
  ok : S.Ok K
  below : Below w.heap.size w W
  lo : w.heap.size ≤ b ∧ w.heap.size ≤ m
section
variable {w W : World} {b m : Nat} {S : PS} {K : Int} (h : Row w b m S K W)
include h
theorem Row.alloc (o : Obj) : Row w b m S K (W.alloc o) := ⟨h.pool.alloc o, h.ok, h.below.alloc h.below.size o, h.lo⟩
theorem Row.drewN (n : Nat) : Row w b m S K (W.drewN n) := ⟨h.pool.kept (T := fun _ => False) (Ex.drewN _ W n) id id, h.ok, h.below.trans ((Ex.drewN (fun _ => False) W n).toBelow h.below.size (fun _ hk => hk.elim)), h.lo⟩
theorem Row.set {r : Int} {S' : PS} (hK : 0 ≤ K) (f : Fr) (hf : f.Ok) (e : setS S f = (r, S')) : Calls Try.prog 19 #[.pointer (some ⟨b, 0, none⟩), .agg (fA f)] W (fun e w' => e = .returned (.int .i64 r) ∧ Row w b m S' K w' ∧ Ex (PB b m) W w') := by
  have hC := set_any W b m h.pool h.ok hK f hf
  have hO := setS_ok h.ok hK hf
  rw [e] at hC hO
  exact hC.mono fun e w' ⟨h1, h2, h3⟩ => ⟨h1, ⟨h2, hO, pb_below h.below h.lo.1 h.lo.2 h3, h.lo⟩, h3⟩
theorem Row.get {f : Fr} {r : Int} {S' : PS} (p : Int) (hp : I64 p) (e : getS S p = ((f, r), S')) : Calls Try.prog 18 #[.pointer (some ⟨b, 0, none⟩), .int .i64 p] W (fun e w' => e = .returned (.tuple #[.agg (fA f), .int .i64 r]) ∧ Row w b m S' K w' ∧ Ex (PB b m) W w') := by
  have hC := get_any W b m h.pool h.ok p hp
  have hO := getS_ok h.ok p
  rw [e] at hC hO
  exact hC.mono fun e w' ⟨h1, h2, h3⟩ => ⟨h1, ⟨h2, hO, pb_below h.below h.lo.1 h.lo.2 h3, h.lo⟩, h3⟩
theorem Row.drop {f : Fr} {r : Int} {S' : PS} (p : Int) (hp : I64 p) (e : dropS S p = ((f, r), S')) : Calls Try.prog 22 #[.pointer (some ⟨b, 0, none⟩), .int .i64 p] W (fun e w' => e = .returned (.tuple #[.agg (fA f), .int .i64 r]) ∧ Row w b m S' K w' ∧ Ex (PB b m) W w') := by
  have hC := drop_any W b m h.pool h.ok p hp
  have hO := dropS_ok h.ok p
  rw [e] at hC hO
  exact hC.mono fun e w' ⟨h1, h2, h3⟩ => ⟨h1, ⟨h2, hO, pb_below h.below h.lo.1 h.lo.2 h3, h.lo⟩, h3⟩
theorem Row.pin {r : Int} {S' : PS} (hK : 0 ≤ K ∧ K ≤ 1000000) (p : Int) (hp : I64 p) (e : pinS S p 1 = (r, S')) : Calls Try.prog 21 #[.pointer (some ⟨b, 0, none⟩), .int .i64 p] W (fun e w' => e = .returned (.int .i64 r) ∧ Row w b m S' (K + 1) w' ∧ Ex (PB b m) W w') := by
  have hC := pinUp_any W b m h.pool h.ok p hp hK
  have hO := pinS_ok h.ok p 1 (by omega)
  rw [e] at hC hO
  exact hC.mono fun e w' ⟨h1, h2, h3⟩ => ⟨h1, ⟨h2, hO, pb_below h.below h.lo.1 h.lo.2 h3, h.lo⟩, h3⟩
theorem Row.unpin {r : Int} {S' : PS} (hK : 0 ≤ K ∧ K ≤ 1000000) (p : Int) (hp : I64 p) (e : pinS S p (-1) = (r, S')) : Calls Try.prog 26 #[.pointer (some ⟨b, 0, none⟩), .int .i64 p] W (fun e w' => e = .returned (.int .i64 r) ∧ Row w b m S' (K + 1) w' ∧ Ex (PB b m) W w') := by
  have hC := pinDown_any W b m h.pool h.ok p hp hK
  have hO := pinS_ok h.ok p (-1) (by omega)
  rw [e] at hC hO
  exact hC.mono fun e w' ⟨h1, h2, h3⟩ => ⟨h1, ⟨h2, hO, pb_below h.below h.lo.1 h.lo.2 h3, h.lo⟩, h3⟩
theorem Row.victim {r : Int} {t : Bool} {S' : PS} (e : victimS S = ((r, t), S')) : Calls Try.prog 17 #[.pointer (some ⟨b, 0, none⟩)] W (fun e w' => e = .returned (.tuple #[.int .i64 r, .bool t]) ∧ Row w b m S' K w' ∧ Ex (PB b m) W w') := by
  have hC := victim_any W b m h.pool h.ok
  have hO := (victimS_ok h.ok).1
  rw [e] at hC hO
  exact hC.mono fun e w' ⟨h1, h2, h3⟩ => ⟨h1, ⟨h2, hO, pb_below h.below h.lo.1 h.lo.2 h3, h.lo⟩, h3⟩
end
theorem row_kept {W W' : World} {b m g : Nat} {f : Fr} (hx : Ex (PB b m) W W') (hb : g ≠ b) (hm : g ≠ m) (h : W.heap[g]? = some (.cells (fA f) 39 (0, 0))) : W'.heap[g]? = some (.cells (fA f) 39 (0, 0)) :=
  (hx.block g (Array.getElem?_eq_some_iff.1 h).1 (fun e => e.elim hb hm)).trans h
set_option maxHeartbeats 16000000 in
theorem known_any (w : World) : Calls Try.prog 10 #[] w (fun e w' => e = .returned (.bool true) ∧ Below w.heap.size w w') := by
  have hz := zfr
  have hq1 := fun u => fr_equal u (frF 1) (frF 1) (frF_ok (i64_s 1 (by decide) (by decide))) (frF_ok (i64_s 1 (by decide) (by decide)))
  have hq2 := fun u => fr_equal u (frF 2) (frF 2) (frF_ok (i64_s 2 (by decide) (by decide))) (frF_ok (i64_s 2 (by decide) (by decide)))
  rw [frB_iff.2 rfl] at hq1 hq2
  have HN := Lib.hid (new_yes 2 (by decide) (by decide) w)
  have o1 := frF_ok (i64_s 1 (by decide) (by decide))
  have o2 := frF_ok (i64_s 2 (by decide) (by decide))
  go_enter Try.func10, Try.ntmps10
  go_wp2_with fail
  refine (new_no 0 (by decide) w).mono ?_
  rintro e w' ⟨rfl, rfl⟩
  go_wp2_with fail
  refine HN.out.mono ?_
  rintro e w0 ⟨rfl, hP, hB⟩
  have h : Row w (w.heap.size + 1) w.heap.size (S0 2) 0 w0 := ⟨hP, S0_ok (by decide) (by decide), hB, by omega, by omega⟩
  generalize w.heap.size + 1 = b at *
  have hlo := h.lo
  go_wp2_with fail
  refine (frame_any _ 16 (i64_s 16 (by decide) (by decide))).mono ?_
  rintro e w' ⟨rfl, rfl⟩
  go_wp2_with fail
  refine ((h.alloc _).set (r := 2) (S' := k0) (by decide) (frF 16) (frF_ok (i64_s 16 (by decide) (by decide))) (by kernel_rfl)).mono ?_
  rintro e v0 ⟨rfl, h0, hx⟩
  clear hx
  clear h
  go_wp2_with fail
  refine (frame_any _ 1 (i64_s 1 (by decide) (by decide))).mono ?_
  rintro e w' ⟨rfl, rfl⟩
  go_wp2_with fail
  refine ((h0.alloc _).set (r := 0) (S' := k1) (by decide) (frF 1) (frF_ok (i64_s 1 (by decide) (by decide))) (by kernel_rfl)).mono ?_
  rintro e v1 ⟨rfl, h1, hx⟩
  clear hx
  clear h0
  go_wp2_with fail
  refine (frame_any _ 2 (i64_s 2 (by decide) (by decide))).mono ?_
  rintro e w' ⟨rfl, rfl⟩
  go_wp2_with fail
  refine ((h1.alloc _).set (r := 0) (S' := k2) (by decide) (frF 2) (frF_ok (i64_s 2 (by decide) (by decide))) (by kernel_rfl)).mono ?_
  rintro e v2 ⟨rfl, h2, hx⟩
  clear hx
  clear h1
  go_wp2_with fail
  refine (frame_any _ 3 (i64_s 3 (by decide) (by decide))).mono ?_
  rintro e w' ⟨rfl, rfl⟩
  go_wp2_with fail
  refine ((h2.alloc _).set (r := 5) (S' := k2) (by decide) (frF 3) (frF_ok (i64_s 3 (by decide) (by decide))) (by kernel_rfl)).mono ?_
  rintro e v3 ⟨rfl, h3, hx⟩
  clear hx
  clear h2
  go_wp2_with fail
  refine (h3.victim (r := 1) (t := true) (S' := k3) (by kernel_rfl)).mono ?_
  rintro e v4 ⟨rfl, h4, hx⟩
  clear hx
  clear h3
  go_wp2_with fail
  refine (h4.victim (r := 2) (t := true) (S' := k4) (by kernel_rfl)).mono ?_
  rintro e v5 ⟨rfl, h5, hx⟩
  clear hx
  clear h4
  go_wp2_with fail
  refine (h5.victim (r := 1) (t := true) (S' := k3) (by kernel_rfl)).mono ?_
  rintro e v6 ⟨rfl, h6, hx⟩
  clear hx
  clear h5
  go_wp2_with fail
  refine (h6.get (f := frF 2) (r := 0) (S' := k6) 2 (i64_s 2 (by decide) (by decide)) (by kernel_rfl)).mono ?_
  rintro e v7 ⟨rfl, h7, hx⟩
  clear hx
  clear h6
  have J : (v7.alloc (.cells (fA (frF 2)) 39)).heap[v7.heap.size]? = some (.cells (fA (frF 2)) 39 (0, 0)) := heap_alloc_new _ _
  have Jb : v7.heap.size ≠ b := fun e => by have := h7.pool.cells.lt; omega
  have Jm : v7.heap.size ≠ w.heap.size := fun e => by have := h7.pool.mlt; omega
  have Jl := h7.alloc (.cells (fA (frF 2)) 39)
  go_wp2_with (refine wpList_store_row rfl 39 (.tmp 15) (.tmp 68) rfl _ (fA (frF 2)) rfl rfl 39 _ (heap_alloc_new _ (.cells (fA fr0) 39)) (infoFrA o2) (fA_size fr0_ok o2) (fv_all _) ?_; rw [World.setRow_alloc_new])
  generalize v7.alloc (.cells (fA (frF 2)) 39) = zJ at *
  generalize v7.heap.size = gJ at *
  go_wp2_with fail
  refine (Jl.victim (r := 1) (t := true) (S' := k3) (by kernel_rfl)).mono ?_
  rintro e v8 ⟨rfl, h8, hx⟩
  replace J := row_kept hx Jb Jm J
  clear hx
  clear Jl
  go_wp2_with fail
  refine (h8.pin (r := 0) (S' := k8) (by decide) 1 (i64_s 1 (by decide) (by decide)) (by kernel_rfl)).mono ?_
  rintro e v9 ⟨rfl, h9, hx⟩
  replace J := row_kept hx Jb Jm J
  clear hx
  clear h8
  go_wp2_with fail
  refine (h9.victim (r := 2) (t := true) (S' := k9) (by kernel_rfl)).mono ?_
  rintro e v10 ⟨rfl, h10, hx⟩
  replace J := row_kept hx Jb Jm J
  clear hx
  clear h9
  go_wp2_with fail
  refine (h10.pin (r := 0) (S' := k10) (by decide) 2 (i64_s 2 (by decide) (by decide)) (by kernel_rfl)).mono ?_
  rintro e v11 ⟨rfl, h11, hx⟩
  replace J := row_kept hx Jb Jm J
  clear hx
  clear h10
  go_wp2_with fail
  refine (h11.victim (r := 0) (t := false) (S' := k10) (by kernel_rfl)).mono ?_
  rintro e v12 ⟨rfl, h12, hx⟩
  replace J := row_kept hx Jb Jm J
  clear hx
  clear h11
  go_wp2_with fail
  refine (h12.drop (f := frF 1) (r := 0) (S' := k11) 1 (i64_s 1 (by decide) (by decide)) (by kernel_rfl)).mono ?_
  rintro e v13 ⟨rfl, h13, hx⟩
  replace J := row_kept hx Jb Jm J
  clear hx
  clear h12
  have J2 := (Below.heap_alloc _ (.cells (fA (frF 1)) 39) _ (Array.getElem?_eq_some_iff.1 J).1).trans J
  have Q : (v13.alloc (.cells (fA (frF 1)) 39)).heap[v13.heap.size]? = some (.cells (fA (frF 1)) 39 (0, 0)) := heap_alloc_new _ _
  have Qb : v13.heap.size ≠ b := fun e => by have := h13.pool.cells.lt; omega
  have Qm : v13.heap.size ≠ w.heap.size := fun e => by have := h13.pool.mlt; omega
  have Ql := h13.alloc (.cells (fA (frF 1)) 39)
  go_wp2_with (refine wpList_store_row rfl 39 (.tmp 25) (.tmp 92) rfl _ (fA (frF 1)) rfl rfl 39 _ (heap_alloc_new _ (.cells (fA fr0) 39)) (infoFrA o1) (fA_size fr0_ok o1) (fv_all _) ?_; rw [World.setRow_alloc_new])
  generalize v13.alloc (.cells (fA (frF 1)) 39) = zQ at *
  generalize v13.heap.size = gQ at *
  go_wp2_with fail
  refine (Ql.unpin (r := 6) (S' := k11) (by decide) 1 (i64_s 1 (by decide) (by decide)) (by kernel_rfl)).mono ?_
  rintro e v14 ⟨rfl, h14, hx⟩
  replace J2 := row_kept hx Jb Jm J2
  replace Q := row_kept hx Qb Qm Q
  clear hx
  clear Ql
  go_wp2_with fail
  have HR := room_any _ b _ h14.pool h14.ok
  rw [show ((k11.s.length : Int) - (cntS k11.s : Int)) = 1 from rfl] at HR
  refine HR.mono ?_
  rintro e vr ⟨rfl, nd, rfl⟩
  replace J2 : (v14.drewN nd).heap[gJ]? = _ := J2
  replace Q : (v14.drewN nd).heap[gQ]? = _ := Q
  have hr := h14.drewN nd
  clear HR h14
  generalize v14.drewN nd = vr at *
  replace J2 := (Below.heap_alloc vr (.cells (fA (frF 3)) 39) _ (Array.getElem?_eq_some_iff.1 J2).1).trans J2
  replace Q := (Below.heap_alloc vr (.cells (fA (frF 3)) 39) _ (Array.getElem?_eq_some_iff.1 Q).1).trans Q
  go_wp2_with fail
  refine (frame_any _ 3 (i64_s 3 (by decide) (by decide))).mono ?_
  rintro e w' ⟨rfl, rfl⟩
  go_wp2_with fail
  refine ((hr.alloc _).set (r := 0) (S' := k12) (by decide) (frF 3) (frF_ok (i64_s 3 (by decide) (by decide))) (by kernel_rfl)).mono ?_
  rintro e v15 ⟨rfl, h15, hx⟩
  replace J2 := row_kept hx Jb Jm J2
  replace Q := row_kept hx Qb Qm Q
  clear hx
  clear hr
  have hend := h15.below
  have HP3 := fun W (hW : Ex (fun _ => False) v15 W) => pins_any W b _ (h15.pool.kept hW id id) h15.ok 3 (i64_s 3 (by decide) (by decide))
  have HP2 := fun W (hW : Ex (fun _ => False) v15 W) => pins_any W b _ (h15.pool.kept hW id id) h15.ok 2 (i64_s 2 (by decide) (by decide))
  rw [show pinsS k12 3 = 0 from by kernel_rfl] at HP3
  rw [show pinsS k12 2 = 1 from by kernel_rfl] at HP2
  have UJ : Up (fun _ => False) v15 (fun u => u.heap[gJ]? = some (.cells (fA (frF 2)) 39 (0, 0))) := fun u hu => (hu.block gJ (Array.getElem?_eq_some_iff.1 J2).1 id).trans J2
  have UQ : Up (fun _ => False) v15 (fun u => u.heap[gQ]? = some (.cells (fA (frF 1)) 39 (0, 0))) := fun u hu => (hu.block gQ (Array.getElem?_eq_some_iff.1 Q).1 id).trans Q
  have HP3 := Lib.hid HP3
  have HP2 := Lib.hid HP2
  have HUJ := Lib.hid UJ
  have HUQ := Lib.hid UQ
  have hD : Hid (Ex (fun _ => False) v15 v15.drew) := Lib.hid (Ex.drew _ _)
  clear J2 Q UJ UQ h15
  go_wp2_with fail
  refine wp_region_seq (fun _ => False) [] [(0, false), (1, false), (2, false), (3, false), (4, true), (6, true), (9, true), (12, true), (15, true), (18, true), (21, true), (24, true), (5, false), (7, false), (8, true), (10, false), (11, true), (13, false), (14, true), (16, false), (17, true), (19, false), (20, true), (22, false), (23, true), (25, false), (26, false), (27, false), (28, false), (29, false), (30, false), (31, false), (32, false), (33, false), (34, false), (35, false), (36, false), (37, false), (38, false), (39, false), (40, false), (41, false), (42, false), (43, false), (44, false), (45, false), (46, false), (47, false), (48, false), (49, false), (50, false), (51, false), (52, true), (53, false), (54, false), (55, false), (56, false), (57, false), (58, false), (59, false), (60, false), (61, false), (62, false), (63, false), (64, false), (65, false), (66, false), (67, false), (68, false), (69, true), (70, false), (71, false), (72, false), (73, false), (74, false), (75, false), (76, false), (77, false), (78, false), (79, false), (80, false), (81, false), (82, false), (83, false), (84, false), (85, false), (86, false), (87, false), (88, false), (89, false), (90, false), (91, false), (92, false)] (by kernel_rfl) (by kernel_rfl) (fun _ _ d _ _ h => by cases d <;> exact h) rfl ?hk ?_
  case hk =>
    exact seqOk_tb kTb (by kernel_rfl) (by kernel_rfl)
  refine seq_eff rfl (by kernel_rfl) (fun K hK => ?_)
  go_simp
  refine hK.out _ _ (.inl (Ex.refl _ _)) ?_
  try simp only [Act.put, List.setIfInBounds_toArray, List.set_cons_zero, List.set_cons_succ]
  clear hK
  refine seq_eff rfl (by kernel_rfl) (fun K hK => ?_)
  go_simp
  refine (num_any _ _).mono ?_
  rintro e w' ⟨rfl, rfl⟩
  refine hK.out _ _ (.inl (Ex.refl _ _)) ?_
  try simp only [Act.put, List.setIfInBounds_toArray, List.set_cons_zero, List.set_cons_succ]
  clear hK
  refine seq_eff rfl (by kernel_rfl) (fun K hK => ?_)
  go_simp
  refine hK.out _ _ (.inl (Ex.refl _ _)) ?_
  try simp only [Act.put, List.setIfInBounds_toArray, List.set_cons_zero, List.set_cons_succ]
  clear hK
  refine seq_eff rfl (by kernel_rfl) (fun K hK => ?_)
  go_simp
  refine hK.out _ _ (.inl (Ex.refl _ _)) ?_
  try simp only [Act.put, List.setIfInBounds_toArray, List.set_cons_zero, List.set_cons_succ]
  clear hK
  refine seq_at (some 105) (v := ?_) rfl (by kernel_rfl) (by kernel_rfl) ?_ ?_
  rotate_left
  · intro w' hw'
    go_simp
    try with_reducible rfl
  simp only [Act.put, List.setIfInBounds_toArray, List.set_cons_zero, List.set_cons_succ]
  refine seq_at (some 107) (v := ?_) rfl (by kernel_rfl) (by kernel_rfl) ?_ ?_
  rotate_left
  · intro w' hw'
    go_simp
    try with_reducible rfl
  simp only [Act.put, List.setIfInBounds_toArray, List.set_cons_zero, List.set_cons_succ]
  refine seq_at (some 110) (v := ?_) rfl (by kernel_rfl) (by kernel_rfl) ?_ ?_
  rotate_left
  · intro w' hw'
    go_simp
    try with_reducible rfl
  simp only [Act.put, List.setIfInBounds_toArray, List.set_cons_zero, List.set_cons_succ]
  refine seq_at (some 113) (v := ?_) rfl (by kernel_rfl) (by kernel_rfl) ?_ ?_
  rotate_left
  · intro w' hw'
    go_simp
    try with_reducible rfl
  simp only [Act.put, List.setIfInBounds_toArray, List.set_cons_zero, List.set_cons_succ]
  refine seq_at (some 116) (v := ?_) rfl (by kernel_rfl) (by kernel_rfl) ?_ ?_
  rotate_left
  · intro w' hw'
    go_simp
    try with_reducible rfl
  simp only [Act.put, List.setIfInBounds_toArray, List.set_cons_zero, List.set_cons_succ]
  refine seq_at (some 119) (v := ?_) rfl (by kernel_rfl) (by kernel_rfl) ?_ ?_
  rotate_left
  · intro w' hw'
    go_simp
    try with_reducible rfl
  simp only [Act.put, List.setIfInBounds_toArray, List.set_cons_zero, List.set_cons_succ]
  refine seq_at (some 122) (v := ?_) rfl (by kernel_rfl) (by kernel_rfl) ?_ ?_
  rotate_left
  · intro w' hw'
    go_simp
    try with_reducible rfl
  simp only [Act.put, List.setIfInBounds_toArray, List.set_cons_zero, List.set_cons_succ]
  refine seq_at (some 125) (v := ?_) rfl (by kernel_rfl) (by kernel_rfl) ?_ ?_
  rotate_left
  · intro w' hw'
    go_simp
    try with_reducible rfl
  simp only [Act.put, List.setIfInBounds_toArray, List.set_cons_zero, List.set_cons_succ]
  refine seq_eff rfl (by kernel_rfl) (fun K hK => ?_)
  go_simp
  refine (num_any _ _).mono ?_
  rintro e w' ⟨rfl, rfl⟩
  refine hK.out _ _ (.inl (Ex.refl _ _)) ?_
  try simp only [Act.put, List.setIfInBounds_toArray, List.set_cons_zero, List.set_cons_succ]
  clear hK
  refine seq_eff rfl (by kernel_rfl) (fun K hK => ?_)
  go_simp
  refine (num_any _ _).mono ?_
  rintro e w' ⟨rfl, rfl⟩
  refine hK.out _ _ (.inl (Ex.refl _ _)) ?_
  try simp only [Act.put, List.setIfInBounds_toArray, List.set_cons_zero, List.set_cons_succ]
  clear hK
  refine seq_at (some 109) (v := ?_) rfl (by kernel_rfl) (by kernel_rfl) ?_ ?_
  rotate_left
  · intro w' hw'
    go_simp
    try with_reducible rfl
  simp only [Act.put, List.setIfInBounds_toArray, List.set_cons_zero, List.set_cons_succ]
  refine seq_eff rfl (by kernel_rfl) (fun K hK => ?_)
  go_simp
  refine (num_any _ _).mono ?_
  rintro e w' ⟨rfl, rfl⟩
  refine hK.out _ _ (.inl (Ex.refl _ _)) ?_
  try simp only [Act.put, List.setIfInBounds_toArray, List.set_cons_zero, List.set_cons_succ]
  clear hK
  refine seq_at (some 112) (v := ?_) rfl (by kernel_rfl) (by kernel_rfl) ?_ ?_
  rotate_left
  · intro w' hw'
    go_simp
    try with_reducible rfl
  simp only [Act.put, List.setIfInBounds_toArray, List.set_cons_zero, List.set_cons_succ]
  refine seq_eff rfl (by kernel_rfl) (fun K hK => ?_)
  go_simp
  refine (num_any _ _).mono ?_
  rintro e w' ⟨rfl, rfl⟩
  refine hK.out _ _ (.inl (Ex.refl _ _)) ?_
  try simp only [Act.put, List.setIfInBounds_toArray, List.set_cons_zero, List.set_cons_succ]
  clear hK
  refine seq_at (some 115) (v := ?_) rfl (by kernel_rfl) (by kernel_rfl) ?_ ?_
  rotate_left
  · intro w' hw'
    go_simp
    try with_reducible rfl
  simp only [Act.put, List.setIfInBounds_toArray, List.set_cons_zero, List.set_cons_succ]
  refine seq_eff rfl (by kernel_rfl) (fun K hK => ?_)
  go_simp
  refine (num_any _ _).mono ?_
  rintro e w' ⟨rfl, rfl⟩
  refine hK.out _ _ (.inl (Ex.refl _ _)) ?_
  try simp only [Act.put, List.setIfInBounds_toArray, List.set_cons_zero, List.set_cons_succ]
  clear hK
  refine seq_at (some 118) (v := ?_) rfl (by kernel_rfl) (by kernel_rfl) ?_ ?_
  rotate_left
  · intro w' hw'
    go_simp
    try with_reducible rfl
  simp only [Act.put, List.setIfInBounds_toArray, List.set_cons_zero, List.set_cons_succ]
  refine seq_eff rfl (by kernel_rfl) (fun K hK => ?_)
  go_simp
  refine (num_any _ _).mono ?_
  rintro e w' ⟨rfl, rfl⟩
  refine hK.out _ _ (.inl (Ex.refl _ _)) ?_
  try simp only [Act.put, List.setIfInBounds_toArray, List.set_cons_zero, List.set_cons_succ]
  clear hK
  refine seq_at (some 121) (v := ?_) rfl (by kernel_rfl) (by kernel_rfl) ?_ ?_
  rotate_left
  · intro w' hw'
    go_simp
    try with_reducible rfl
  simp only [Act.put, List.setIfInBounds_toArray, List.set_cons_zero, List.set_cons_succ]
  refine seq_eff rfl (by kernel_rfl) (fun K hK => ?_)
  go_simp
  refine (num_any _ _).mono ?_
  rintro e w' ⟨rfl, rfl⟩
  refine hK.out _ _ (.inl (Ex.refl _ _)) ?_
  try simp only [Act.put, List.setIfInBounds_toArray, List.set_cons_zero, List.set_cons_succ]
  clear hK
  refine seq_at (some 124) (v := ?_) rfl (by kernel_rfl) (by kernel_rfl) ?_ ?_
  rotate_left
  · intro w' hw'
    go_simp
    try with_reducible rfl
  simp only [Act.put, List.setIfInBounds_toArray, List.set_cons_zero, List.set_cons_succ]
  refine seq_eff rfl (by kernel_rfl) (fun K hK => ?_)
  go_simp
  refine (num_any _ _).mono ?_
  rintro e w' ⟨rfl, rfl⟩
  refine hK.out _ _ (.inl (Ex.refl _ _)) ?_
  try simp only [Act.put, List.setIfInBounds_toArray, List.set_cons_zero, List.set_cons_succ]
  clear hK
  refine seq_eff rfl (by kernel_rfl) (fun K hK => ?_)
  go_simp
  refine hK.out _ _ (.inl (Ex.refl _ _)) ?_
  try simp only [Act.put, List.setIfInBounds_toArray, List.set_cons_zero, List.set_cons_succ]
  clear hK
  refine seq_eff rfl (by kernel_rfl) (fun K hK => ?_)
  go_simp
  refine hK.out _ _ (.inl (Ex.refl _ _)) ?_
  try simp only [Act.put, List.setIfInBounds_toArray, List.set_cons_zero, List.set_cons_succ]
  clear hK
  refine seq_eff rfl (by kernel_rfl) (fun K hK => ?_)
  go_simp
  refine hK.out _ _ (.inl (Ex.refl _ _)) ?_
  try simp only [Act.put, List.setIfInBounds_toArray, List.set_cons_zero, List.set_cons_succ]
  clear hK
  refine seq_eff rfl (by kernel_rfl) (fun K hK => ?_)
  go_simp
  refine hK.out _ _ (.inl (Ex.refl _ _)) ?_
  try simp only [Act.put, List.setIfInBounds_toArray, List.set_cons_zero, List.set_cons_succ]
  clear hK
  refine seq_eff rfl (by kernel_rfl) (fun K hK => ?_)
  go_simp
  refine hK.out _ _ (.inl (Ex.refl _ _)) ?_
  try simp only [Act.put, List.setIfInBounds_toArray, List.set_cons_zero, List.set_cons_succ]
  clear hK
  refine seq_eff rfl (by kernel_rfl) (fun K hK => ?_)
  go_simp
  refine (num_any _ _).mono ?_
  rintro e w' ⟨rfl, rfl⟩
  refine hK.out _ _ (.inl (Ex.refl _ _)) ?_
  try simp only [Act.put, List.setIfInBounds_toArray, List.set_cons_zero, List.set_cons_succ]
  clear hK
  refine seq_eff rfl (by kernel_rfl) (fun K hK => ?_)
  go_simp
  refine hK.out _ _ (.inl (Ex.refl _ _)) ?_
  try simp only [Act.put, List.setIfInBounds_toArray, List.set_cons_zero, List.set_cons_succ]
  clear hK
  refine seq_eff rfl (by kernel_rfl) (fun K hK => ?_)
  go_simp
  refine hK.out _ _ (.inl (Ex.refl _ _)) ?_
  try simp only [Act.put, List.setIfInBounds_toArray, List.set_cons_zero, List.set_cons_succ]
  clear hK
  refine seq_eff rfl (by kernel_rfl) (fun K hK => ?_)
  go_simp
  refine hK.out _ _ (.inl (Ex.refl _ _)) ?_
  try simp only [Act.put, List.setIfInBounds_toArray, List.set_cons_zero, List.set_cons_succ]
  clear hK
  refine seq_eff rfl (by kernel_rfl) (fun K hK => ?_)
  go_simp
  refine hK.out _ _ (.inl (Ex.refl _ _)) ?_
  try simp only [Act.put, List.setIfInBounds_toArray, List.set_cons_zero, List.set_cons_succ]
  clear hK
  refine seq_eff rfl (by kernel_rfl) (fun K hK => ?_)
  go_simp
  refine (num_any _ _).mono ?_
  rintro e w' ⟨rfl, rfl⟩
  refine hK.out _ _ (.inl (Ex.refl _ _)) ?_
  try simp only [Act.put, List.setIfInBounds_toArray, List.set_cons_zero, List.set_cons_succ]
  clear hK
  refine seq_eff rfl (by kernel_rfl) (fun K hK => ?_)
  go_simp
  refine hK.out _ _ (.inl (Ex.refl _ _)) ?_
  try simp only [Act.put, List.setIfInBounds_toArray, List.set_cons_zero, List.set_cons_succ]
  clear hK
  refine seq_eff rfl (by kernel_rfl) (fun K hK => ?_)
  go_simp
  refine hK.out _ _ (.inl (Ex.refl _ _)) ?_
  try simp only [Act.put, List.setIfInBounds_toArray, List.set_cons_zero, List.set_cons_succ]
  clear hK
  refine seq_eff rfl (by kernel_rfl) (fun K hK => ?_)
  go_simp
  refine hK.out _ _ (.inl (Ex.refl _ _)) ?_
  try simp only [Act.put, List.setIfInBounds_toArray, List.set_cons_zero, List.set_cons_succ]
  clear hK
  refine seq_eff rfl (by kernel_rfl) (fun K hK => ?_)
  go_simp
  refine hK.out _ _ (.inl (Ex.refl _ _)) ?_
  try simp only [Act.put, List.setIfInBounds_toArray, List.set_cons_zero, List.set_cons_succ]
  clear hK
  refine seq_eff rfl (by kernel_rfl) (fun K hK => ?_)
  go_simp
  refine hK.out _ _ (.inl (Ex.refl _ _)) ?_
  try simp only [Act.put, List.setIfInBounds_toArray, List.set_cons_zero, List.set_cons_succ]
  clear hK
  refine seq_eff rfl (by kernel_rfl) (fun K hK => ?_)
  go_simp
  refine hK.out _ _ (.inl (Ex.refl _ _)) ?_
  try simp only [Act.put, List.setIfInBounds_toArray, List.set_cons_zero, List.set_cons_succ]
  clear hK
  refine seq_eff rfl (by kernel_rfl) (fun K hK => ?_)
  go_simp
  refine hK.out _ _ (.inl (Ex.refl _ _)) ?_
  try simp only [Act.put, List.setIfInBounds_toArray, List.set_cons_zero, List.set_cons_succ]
  clear hK
  refine seq_eff rfl (by kernel_rfl) (fun K hK => ?_)
  go_simp
  refine hK.out _ _ (.inl (Ex.refl _ _)) ?_
  try simp only [Act.put, List.setIfInBounds_toArray, List.set_cons_zero, List.set_cons_succ]
  clear hK
  refine seq_eff rfl (by kernel_rfl) (fun K hK => ?_)
  go_simp
  refine hK.out _ _ (.inl (Ex.refl _ _)) ?_
  try simp only [Act.put, List.setIfInBounds_toArray, List.set_cons_zero, List.set_cons_succ]
  clear hK
  refine seq_eff rfl (by kernel_rfl) (fun K hK => ?_)
  go_simp
  refine hK.out _ _ (.inl (Ex.refl _ _)) ?_
  try simp only [Act.put, List.setIfInBounds_toArray, List.set_cons_zero, List.set_cons_succ]
  clear hK
  refine seq_eff rfl (by kernel_rfl) (fun K hK => ?_)
  go_simp
  refine hK.out _ _ (.inl (Ex.refl _ _)) ?_
  try simp only [Act.put, List.setIfInBounds_toArray, List.set_cons_zero, List.set_cons_succ]
  clear hK
  refine seq_eff rfl (by kernel_rfl) (fun K hK => ?_)
  go_simp
  refine hK.out _ _ (.inl (Ex.refl _ _)) ?_
  try simp only [Act.put, List.setIfInBounds_toArray, List.set_cons_zero, List.set_cons_succ]
  clear hK
  refine seq_eff rfl (by kernel_rfl) (fun K hK => ?_)
  go_simp
  refine hK.out _ _ (.inl (Ex.refl _ _)) ?_
  try simp only [Act.put, List.setIfInBounds_toArray, List.set_cons_zero, List.set_cons_succ]
  clear hK
  refine seq_eff rfl (by kernel_rfl) (fun K hK => ?_)
  go_simp
  refine hK.out _ _ (.inl (Ex.refl _ _)) ?_
  try simp only [Act.put, List.setIfInBounds_toArray, List.set_cons_zero, List.set_cons_succ]
  clear hK
  refine seq_eff rfl (by kernel_rfl) (fun K hK => ?_)
  go_simp
  refine hK.out _ _ (.inl (Ex.refl _ _)) ?_
  try simp only [Act.put, List.setIfInBounds_toArray, List.set_cons_zero, List.set_cons_succ]
  clear hK
  refine seq_load_fr (some 153) rfl (by kernel_rfl) (by kernel_rfl) (.tmp 15) rfl gJ (frF 2) rfl o2 (HUJ.out.later hD.out) ?_
  try simp only [Act.put, List.setIfInBounds_toArray, List.set_cons_zero, List.set_cons_succ]
  refine seq_eff rfl (by kernel_rfl) (fun K hK => ?_)
  go_simp
  refine (frame_any _ 2 (i64_s 2 (by decide) (by decide))).mono ?_
  rintro e x1 ⟨rfl, hxe⟩
  have hf1 : Hid (Below _ _ x1) := Lib.hid (hxe ▸ (Below.refl _ _).alloc (Nat.le_refl _) _)
  clear hxe
  refine hK.out _ _ (.inl (Ex.below hf1.out)) ?_
  try simp only [Act.put, List.setIfInBounds_toArray, List.set_cons_zero, List.set_cons_succ]
  clear hK
  refine seq_eff rfl (by kernel_rfl) (fun K hK => ?_)
  go_simp
  refine hK.out _ _ (.inl (Ex.refl _ _)) ?_
  try simp only [Act.put, List.setIfInBounds_toArray, List.set_cons_zero, List.set_cons_succ]
  clear hK
  refine seq_eff rfl (by kernel_rfl) (fun K hK => ?_)
  go_simp
  refine hK.out _ _ (.inl (Ex.refl _ _)) ?_
  try simp only [Act.put, List.setIfInBounds_toArray, List.set_cons_zero, List.set_cons_succ]
  clear hK
  refine seq_eff rfl (by kernel_rfl) (fun K hK => ?_)
  go_simp
  refine hK.out _ _ (.inl (Ex.refl _ _)) ?_
  try simp only [Act.put, List.setIfInBounds_toArray, List.set_cons_zero, List.set_cons_succ]
  clear hK
  refine seq_eff rfl (by kernel_rfl) (fun K hK => ?_)
  go_simp
  refine hK.out _ _ (.inl (Ex.refl _ _)) ?_
  try simp only [Act.put, List.setIfInBounds_toArray, List.set_cons_zero, List.set_cons_succ]
  clear hK
  refine seq_eff rfl (by kernel_rfl) (fun K hK => ?_)
  go_simp
  refine hK.out _ _ (.inl (Ex.refl _ _)) ?_
  try simp only [Act.put, List.setIfInBounds_toArray, List.set_cons_zero, List.set_cons_succ]
  clear hK
  refine seq_eff rfl (by kernel_rfl) (fun K hK => ?_)
  go_simp
  refine hK.out _ _ (.inl (Ex.refl _ _)) ?_
  try simp only [Act.put, List.setIfInBounds_toArray, List.set_cons_zero, List.set_cons_succ]
  clear hK
  refine seq_eff rfl (by kernel_rfl) (fun K hK => ?_)
  go_simp
  refine hK.out _ _ (.inl (Ex.refl _ _)) ?_
  try simp only [Act.put, List.setIfInBounds_toArray, List.set_cons_zero, List.set_cons_succ]
  clear hK
  refine seq_eff rfl (by kernel_rfl) (fun K hK => ?_)
  go_simp
  refine hK.out _ _ (.inl (Ex.refl _ _)) ?_
  try simp only [Act.put, List.setIfInBounds_toArray, List.set_cons_zero, List.set_cons_succ]
  clear hK
  refine seq_eff rfl (by kernel_rfl) (fun K hK => ?_)
  go_simp
  refine hK.out _ _ (.inl (Ex.refl _ _)) ?_
  try simp only [Act.put, List.setIfInBounds_toArray, List.set_cons_zero, List.set_cons_succ]
  clear hK
  refine seq_eff rfl (by kernel_rfl) (fun K hK => ?_)
  go_simp
  refine hK.out _ _ (.inl (Ex.refl _ _)) ?_
  try simp only [Act.put, List.setIfInBounds_toArray, List.set_cons_zero, List.set_cons_succ]
  clear hK
  refine seq_eff rfl (by kernel_rfl) (fun K hK => ?_)
  go_simp
  refine hK.out _ _ (.inl (Ex.refl _ _)) ?_
  try simp only [Act.put, List.setIfInBounds_toArray, List.set_cons_zero, List.set_cons_succ]
  clear hK
  refine seq_eff rfl (by kernel_rfl) (fun K hK => ?_)
  go_simp
  refine hK.out _ _ (.inl (Ex.refl _ _)) ?_
  try simp only [Act.put, List.setIfInBounds_toArray, List.set_cons_zero, List.set_cons_succ]
  clear hK
  refine seq_eff rfl (by kernel_rfl) (fun K hK => ?_)
  go_simp
  refine hK.out _ _ (.inl (Ex.refl _ _)) ?_
  try simp only [Act.put, List.setIfInBounds_toArray, List.set_cons_zero, List.set_cons_succ]
  clear hK
  refine seq_eff rfl (by kernel_rfl) (fun K hK => ?_)
  go_simp
  refine hK.out _ _ (.inl (Ex.refl _ _)) ?_
  try simp only [Act.put, List.setIfInBounds_toArray, List.set_cons_zero, List.set_cons_succ]
  clear hK
  refine seq_eff rfl (by kernel_rfl) (fun K hK => ?_)
  go_simp
  refine hK.out _ _ (.inl (Ex.refl _ _)) ?_
  try simp only [Act.put, List.setIfInBounds_toArray, List.set_cons_zero, List.set_cons_succ]
  clear hK
  refine seq_load_fr (some 170) rfl (by kernel_rfl) (by kernel_rfl) (.tmp 25) rfl gQ (frF 1) rfl o1 (HUQ.out.later (hD.out.trans (Ex.below hf1.out))) ?_
  try simp only [Act.put, List.setIfInBounds_toArray, List.set_cons_zero, List.set_cons_succ]
  refine seq_eff rfl (by kernel_rfl) (fun K hK => ?_)
  go_simp
  refine (frame_any _ 1 (i64_s 1 (by decide) (by decide))).mono ?_
  rintro e x2 ⟨rfl, hxe⟩
  have hf2 : Hid (Below _ _ x2) := Lib.hid (hxe ▸ (Below.refl _ _).alloc (Nat.le_refl _) _)
  clear hxe
  refine hK.out _ _ (.inl (Ex.below hf2.out)) ?_
  try simp only [Act.put, List.setIfInBounds_toArray, List.set_cons_zero, List.set_cons_succ]
  clear hK
  refine seq_eff rfl (by kernel_rfl) (fun K hK => ?_)
  go_simp
  refine hK.out _ _ (.inl (Ex.refl _ _)) ?_
  try simp only [Act.put, List.setIfInBounds_toArray, List.set_cons_zero, List.set_cons_succ]
  clear hK
  refine seq_eff rfl (by kernel_rfl) (fun K hK => ?_)
  go_simp
  refine hK.out _ _ (.inl (Ex.refl _ _)) ?_
  try simp only [Act.put, List.setIfInBounds_toArray, List.set_cons_zero, List.set_cons_succ]
  clear hK
  refine seq_eff rfl (by kernel_rfl) (fun K hK => ?_)
  go_simp
  refine hK.out _ _ (.inl (Ex.refl _ _)) ?_
  try simp only [Act.put, List.setIfInBounds_toArray, List.set_cons_zero, List.set_cons_succ]
  clear hK
  refine seq_eff rfl (by kernel_rfl) (fun K hK => ?_)
  go_simp
  refine hK.out _ _ (.inl (Ex.refl _ _)) ?_
  try simp only [Act.put, List.setIfInBounds_toArray, List.set_cons_zero, List.set_cons_succ]
  clear hK
  refine seq_eff rfl (by kernel_rfl) (fun K hK => ?_)
  go_simp
  refine (num_any _ _).mono ?_
  rintro e w' ⟨rfl, rfl⟩
  refine hK.out _ _ (.inl (Ex.refl _ _)) ?_
  try simp only [Act.put, List.setIfInBounds_toArray, List.set_cons_zero, List.set_cons_succ]
  clear hK
  refine seq_eff rfl (by kernel_rfl) (fun K hK => ?_)
  go_simp
  refine hK.out _ _ (.inl (Ex.refl _ _)) ?_
  try simp only [Act.put, List.setIfInBounds_toArray, List.set_cons_zero, List.set_cons_succ]
  clear hK
  refine seq_eff rfl (by kernel_rfl) (fun K hK => ?_)
  go_simp
  refine hK.out _ _ (.inl (Ex.refl _ _)) ?_
  try simp only [Act.put, List.setIfInBounds_toArray, List.set_cons_zero, List.set_cons_succ]
  clear hK
  refine seq_eff rfl (by kernel_rfl) (fun K hK => ?_)
  go_simp
  refine hK.out _ _ (.inl (Ex.refl _ _)) ?_
  try simp only [Act.put, List.setIfInBounds_toArray, List.set_cons_zero, List.set_cons_succ]
  clear hK
  refine seq_eff rfl (by kernel_rfl) (fun K hK => ?_)
  go_simp
  refine hK.out _ _ (.inl (Ex.refl _ _)) ?_
  try simp only [Act.put, List.setIfInBounds_toArray, List.set_cons_zero, List.set_cons_succ]
  clear hK
  refine seq_eff rfl (by kernel_rfl) (fun K hK => ?_)
  go_simp
  refine hK.out _ _ (.inl (Ex.refl _ _)) ?_
  try simp only [Act.put, List.setIfInBounds_toArray, List.set_cons_zero, List.set_cons_succ]
  clear hK
  refine seq_eff rfl (by kernel_rfl) (fun K hK => ?_)
  go_simp
  refine hK.out _ _ (.inl (Ex.refl _ _)) ?_
  try simp only [Act.put, List.setIfInBounds_toArray, List.set_cons_zero, List.set_cons_succ]
  clear hK
  refine seq_eff rfl (by kernel_rfl) (fun K hK => ?_)
  go_simp
  refine hK.out _ _ (.inl (Ex.refl _ _)) ?_
  try simp only [Act.put, List.setIfInBounds_toArray, List.set_cons_zero, List.set_cons_succ]
  clear hK
  refine seq_eff rfl (by kernel_rfl) (fun K hK => ?_)
  go_simp
  refine hK.out _ _ (.inl (Ex.refl _ _)) ?_
  try simp only [Act.put, List.setIfInBounds_toArray, List.set_cons_zero, List.set_cons_succ]
  clear hK
  refine seq_eff rfl (by kernel_rfl) (fun K hK => ?_)
  go_simp
  refine (HP3.out _ ((hD.out.trans (Ex.below hf1.out)).trans (Ex.below hf2.out))).mono ?_
  rintro e w' ⟨rfl, rfl⟩
  refine hK.out _ _ (.inl (Ex.refl _ _)) ?_
  try simp only [Act.put, List.setIfInBounds_toArray, List.set_cons_zero, List.set_cons_succ]
  clear hK
  refine seq_eff rfl (by kernel_rfl) (fun K hK => ?_)
  go_simp
  refine hK.out _ _ (.inl (Ex.refl _ _)) ?_
  try simp only [Act.put, List.setIfInBounds_toArray, List.set_cons_zero, List.set_cons_succ]
  clear hK
  refine seq_eff rfl (by kernel_rfl) (fun K hK => ?_)
  go_simp
  refine hK.out _ _ (.inl (Ex.refl _ _)) ?_
  try simp only [Act.put, List.setIfInBounds_toArray, List.set_cons_zero, List.set_cons_succ]
  clear hK
  refine seq_eff rfl (by kernel_rfl) (fun K hK => ?_)
  go_simp
  refine hK.out _ _ (.inl (Ex.refl _ _)) ?_
  try simp only [Act.put, List.setIfInBounds_toArray, List.set_cons_zero, List.set_cons_succ]
  clear hK
  refine seq_eff rfl (by kernel_rfl) (fun K hK => ?_)
  go_simp
  refine hK.out _ _ (.inl (Ex.refl _ _)) ?_
  try simp only [Act.put, List.setIfInBounds_toArray, List.set_cons_zero, List.set_cons_succ]
  clear hK
  refine seq_eff rfl (by kernel_rfl) (fun K hK => ?_)
  go_simp
  refine (HP2.out _ ((hD.out.trans (Ex.below hf1.out)).trans (Ex.below hf2.out))).mono ?_
  rintro e w' ⟨rfl, rfl⟩
  refine hK.out _ _ (.inl (Ex.refl _ _)) ?_
  try simp only [Act.put, List.setIfInBounds_toArray, List.set_cons_zero, List.set_cons_succ]
  clear hK
  refine seq_eff rfl (by kernel_rfl) (fun K hK => ?_)
  go_simp
  refine hK.out _ _ (.inl (Ex.refl _ _)) ?_
  try simp only [Act.put, List.setIfInBounds_toArray, List.set_cons_zero, List.set_cons_succ]
  clear hK
  refine seq_eff rfl (by kernel_rfl) (fun K hK => ?_)
  go_simp
  refine hK.out _ _ (.inl (Ex.refl _ _)) ?_
  try simp only [Act.put, List.setIfInBounds_toArray, List.set_cons_zero, List.set_cons_succ]
  clear hK
  refine seq_eff rfl (by kernel_rfl) (fun K hK => ?_)
  go_simp
  refine hK.out _ _ (.inl (Ex.refl _ _)) ?_
  try simp only [Act.put, List.setIfInBounds_toArray, List.set_cons_zero, List.set_cons_succ]
  clear hK
  refine seq_nil ?_
  go_wp2_with fail
  go_ret
  exact ⟨rfl, hend.trans ((hD.out.trans (Ex.below hf1.out)).trans (Ex.below hf2.out) |>.toBelow (by have := hend.size; omega) (fun _ hk => hk.elim))⟩
end Go.Proofs.Ytjbjfpbhacpeiaa
