/- Part 3 of what the law's proof needs: words, walks of functions and plain facts. -/
import Derived.Shelf.SlicesQ.Load
import Derived.Shelf.Abstract
import Derived.Lib.Hide
import Derived.Lib.BufferMore
import Derived.Lib.LazyBuf
import Derived.Test.YtikmfpjcdcckeaaDoorC01
import Derived.Test.YtikmfpjcdcckeaaDoorC02
set_option linter.unusedVariables false
set_option linter.unusedSimpArgs false
namespace Go.Proofs.YtikmfpjcdcckeaaDoor.P
open Go.RowKit Go.Proofs.YtikmfpjcdcckeaaDoorW.PrintWords Go.Proofs.YtikmfpjcdcckeaaDoorW.PrintLast Go.Proofs.YtikmfpjcdcckeaaDoorW.PrintMore
attribute [local go_sem] max2_int min2_int max_two min_two max_three min_three max_four min_four
mutual
def walkmilllaw05_Green_field.l0 : Nat → Int → List (S71) → Int → Int → Int → Int → Int → List (S65) → List (S42) → Int → Int → Option ((List (S42)) × List Int × Int × Int)
 | 0, _, _, _, _, _, _, _, _, _, _, _ => none
 | k + 1, x4, x102000, x102001, x102002, x102003, x102004, x102005, x102006, x104000, x104002, x104003 => if x4 < (x102000.length : Int) then (walkmilllaw05_Green_field.j1 k x4 (decide (x4 < 6)) x102000 x102001 x102002 x102003 x102004 x102005 x102006 x104000 x104002 x104003) else (walkmilllaw05_Green_field.j1 k x4 false x102000 x102001 x102002 x102003 x102004 x102005 x102006 x104000 x104002 x104003)
def walkmilllaw05_Green_field.j1 : Nat → Int → Bool → List (S71) → Int → Int → Int → Int → Int → List (S65) → List (S42) → Int → Int → Option ((List (S42)) × List Int × Int × Int)
 | 0, _, _, _, _, _, _, _, _, _, _, _, _ => none
 | k + 1, x4, x26, x102000, x102001, x102002, x102003, x102004, x102005, x102006, x104000, x104002, x104003 => if x26 = true then (if 0 ≤ x4 then (if x4 < (x102000.length : Int) then ((walkmilllaw05_span.f (wrap64 (40 + (wrap64 (2 * (wrap64 ((rd_T71 x102000 x4).f0)))))) (wrap64 ((wrap64 (40 + (wrap64 (2 * (wrap64 ((rd_T71 x102000 x4).f0)))))) + (Int.tmod (wrap64 ((rd_T71 x102000 x4).f1)) 14)))).bind fun bt106 => ((walkmilllaw05_span.f (wrap64 (Int.tdiv (wrap64 ((rd_T71 x102000 x4).f2)) 2)) (wrap64 ((wrap64 (Int.tdiv (wrap64 ((rd_T71 x102000 x4).f2)) 2)) + (Int.tmod (wrap64 ((rd_T71 x102000 x4).f3)) 20)))).bind fun bt108 => (if x104000.length < 4398046511104 then (walkmilllaw05_Green_field.l0 k (wrap64 (x4 + 1)) x102000 x102001 x102002 x102003 x102004 x102005 x102006 (x104000 ++ [(⟨(⟨bt106.1, bt106.2⟩ : S40), (⟨bt108.1, bt108.2⟩ : S40)⟩ : S42)]) x104002 x104003) else (none)))) else (none)) else (none)) else (walkmilllaw05_Green_field.l1 k 0 x102000 x102001 x102002 x102003 x102004 x102005 x102006 x104000 ([] : List Int) x104002 x104003)
def walkmilllaw05_Green_field.l1 : Nat → Int → List (S71) → Int → Int → Int → Int → Int → List (S65) → List (S42) → List Int → Int → Int → Option ((List (S42)) × List Int × Int × Int)
 | 0, _, _, _, _, _, _, _, _, _, _, _, _ => none
 | k + 1, x8, x102000, x102001, x102002, x102003, x102004, x102005, x102006, x104000, x104001, x104002, x104003 => if x8 < (wrap64 (1 + (Int.tmod (wrap64 (Int.tdiv (wrap64 (x102004)) 32)) 3))) then (if x8 = 0 then (if x104001.length < 17592186044416 then (walkmilllaw05_Green_field.l1 k (wrap64 (x8 + 1)) x102000 x102001 x102002 x102003 x102004 x102005 x102006 x104000 (x104001 ++ [wrap64 (60 + (wrap64 (5 * (wrap64 (x102001)))))]) x104002 x104003) else (none)) else (if x8 = 1 then (if x104001.length < 17592186044416 then (walkmilllaw05_Green_field.l1 k (wrap64 (x8 + 1)) x102000 x102001 x102002 x102003 x102004 x102005 x102006 x104000 (x104001 ++ [wrap64 (60 + (wrap64 (5 * (wrap64 (x102002)))))]) x104002 x104003) else (none)) else (if x8 = 2 then (if x104001.length < 17592186044416 then (walkmilllaw05_Green_field.l1 k (wrap64 (x8 + 1)) x102000 x102001 x102002 x102003 x102004 x102005 x102006 x104000 (x104001 ++ [wrap64 (60 + (wrap64 (5 * (wrap64 (x102003)))))]) x104002 x104003) else (none)) else (none)))) else (some (x104000, x104001, x104002, x104003))
end
def walkmilllaw05_Green_field.f (k : Nat) (l0_0 : List (S71)) (a0_1 : Int) (a0_2 : Int) (a0_3 : Int) (a0_4 : Int) (a0_5 : Int) (l0_6 : List (S65)) : Option ((List (S42)) × List Int × Int × Int) := walkmilllaw05_Green_field.l0 k 0 l0_0 a0_1 a0_2 a0_3 a0_4 a0_5 l0_6 ([] : List (S42)) (Int.tmod (wrap64 (a0_4)) 30) (Int.tmod (wrap64 (a0_5)) 120)
theorem walkmilllaw05_Green_field.mono_l : ∀ k, (∀ y0 y1 y2 y3 y4 y5 y6 y7 y8 y9 y10, LeO (walkmilllaw05_Green_field.l0 k y0 y1 y2 y3 y4 y5 y6 y7 y8 y9 y10) (walkmilllaw05_Green_field.l0 (k + 1) y0 y1 y2 y3 y4 y5 y6 y7 y8 y9 y10)) ∧ (∀ y0 y1 y2 y3 y4 y5 y6 y7 y8 y9 y10 y11, LeO (walkmilllaw05_Green_field.j1 k y0 y1 y2 y3 y4 y5 y6 y7 y8 y9 y10 y11) (walkmilllaw05_Green_field.j1 (k + 1) y0 y1 y2 y3 y4 y5 y6 y7 y8 y9 y10 y11)) ∧ (∀ y0 y1 y2 y3 y4 y5 y6 y7 y8 y9 y10 y11, LeO (walkmilllaw05_Green_field.l1 k y0 y1 y2 y3 y4 y5 y6 y7 y8 y9 y10 y11) (walkmilllaw05_Green_field.l1 (k + 1) y0 y1 y2 y3 y4 y5 y6 y7 y8 y9 y10 y11))
 | 0 => ⟨fun _ _ _ _ _ _ _ _ _ _ _ r h => by simp [walkmilllaw05_Green_field.l0] at h, fun _ _ _ _ _ _ _ _ _ _ _ _ r h => by simp [walkmilllaw05_Green_field.j1] at h, fun _ _ _ _ _ _ _ _ _ _ _ _ r h => by simp [walkmilllaw05_Green_field.l1] at h⟩
 | k + 1 => by
  obtain ⟨ih0, ih1, ih2⟩ := walkmilllaw05_Green_field.mono_l k
  refine ⟨?_, ?_, ?_⟩
  ·intro y0 y1 y2 y3 y4 y5 y6 y7 y8 y9 y10
   unfold walkmilllaw05_Green_field.l0
   repeat' first
   | (with_reducible exact ih0 _ _ _ _ _ _ _ _ _ _ _)
   | (with_reducible exact ih1 _ _ _ _ _ _ _ _ _ _ _ _)
   | (with_reducible exact ih2 _ _ _ _ _ _ _ _ _ _ _ _)
   | (with_reducible exact LeO.refl _)
   | (with_reducible exact LeO.none _)
   | (with_reducible refine LeO.ite ?_ ?_)
   | (with_reducible refine LeO.bind ?_ (fun _ => ?_))
   | exact ih0 _ _ _ _ _ _ _ _ _ _ _
   | exact ih1 _ _ _ _ _ _ _ _ _ _ _ _
   | exact ih2 _ _ _ _ _ _ _ _ _ _ _ _
   | exact LeO.none _
   | refine LeO.ite ?_ ?_
   | refine LeO.bind ?_ (fun _ => ?_)
  ·intro y0 y1 y2 y3 y4 y5 y6 y7 y8 y9 y10 y11
   unfold walkmilllaw05_Green_field.j1
   repeat' first
   | (with_reducible exact ih0 _ _ _ _ _ _ _ _ _ _ _)
   | (with_reducible exact ih1 _ _ _ _ _ _ _ _ _ _ _ _)
   | (with_reducible exact ih2 _ _ _ _ _ _ _ _ _ _ _ _)
   | (with_reducible exact LeO.refl _)
   | (with_reducible exact LeO.none _)
   | (with_reducible refine LeO.ite ?_ ?_)
   | (with_reducible refine LeO.bind ?_ (fun _ => ?_))
   | exact ih0 _ _ _ _ _ _ _ _ _ _ _
   | exact ih1 _ _ _ _ _ _ _ _ _ _ _ _
   | exact ih2 _ _ _ _ _ _ _ _ _ _ _ _
   | exact LeO.none _
   | refine LeO.ite ?_ ?_
   | refine LeO.bind ?_ (fun _ => ?_)
  ·intro y0 y1 y2 y3 y4 y5 y6 y7 y8 y9 y10 y11
   unfold walkmilllaw05_Green_field.l1
   repeat' first
   | (with_reducible exact ih0 _ _ _ _ _ _ _ _ _ _ _)
   | (with_reducible exact ih1 _ _ _ _ _ _ _ _ _ _ _ _)
   | (with_reducible exact ih2 _ _ _ _ _ _ _ _ _ _ _ _)
   | (with_reducible exact LeO.refl _)
   | (with_reducible exact LeO.none _)
   | (with_reducible refine LeO.ite ?_ ?_)
   | (with_reducible refine LeO.bind ?_ (fun _ => ?_))
   | exact ih0 _ _ _ _ _ _ _ _ _ _ _
   | exact ih1 _ _ _ _ _ _ _ _ _ _ _ _
   | exact ih2 _ _ _ _ _ _ _ _ _ _ _ _
   | exact LeO.none _
   | refine LeO.ite ?_ ?_
   | refine LeO.bind ?_ (fun _ => ?_)
theorem walkmilllaw05_Green_field.mono : ∀ a0 a1 a2 a3 a4 a5 a6 k, LeO (walkmilllaw05_Green_field.f k a0 a1 a2 a3 a4 a5 a6) (walkmilllaw05_Green_field.f (k + 1) a0 a1 a2 a3 a4 a5 a6) := by
 intro a0 a1 a2 a3 a4 a5 a6 k
 obtain ⟨ih0, ih1, ih2⟩ := walkmilllaw05_Green_field.mono_l k
 unfold walkmilllaw05_Green_field.f
 repeat' first
   | (with_reducible exact ih0 _ _ _ _ _ _ _ _ _ _ _)
   | (with_reducible exact ih1 _ _ _ _ _ _ _ _ _ _ _ _)
   | (with_reducible exact ih2 _ _ _ _ _ _ _ _ _ _ _ _)
   | (with_reducible exact LeO.refl _)
   | (with_reducible exact LeO.none _)
   | (with_reducible refine LeO.ite ?_ ?_)
   | (with_reducible refine LeO.bind ?_ (fun _ => ?_))
   | exact ih0 _ _ _ _ _ _ _ _ _ _ _
   | exact ih1 _ _ _ _ _ _ _ _ _ _ _ _
   | exact ih2 _ _ _ _ _ _ _ _ _ _ _ _
   | exact LeO.none _
   | refine LeO.ite ?_ ?_
   | refine LeO.bind ?_ (fun _ => ?_)
def walkmilllaw05_Green_field.T6 : Bool × List (List Nat × List Nat) := (true, [([], []), ([0], [0]), ([1], [1]), ([2], [2]), ([3], [3]), ([], []), ([5], [5]), ([6], [6]), ([7], [7]), ([4, 0, 1, 2, 3, 4], [4]), ([8, 9, 0, 1, 2, 3, 4, 5, 6, 7, 8, 9], [8])])
def walkmilllaw05_Green_field.B6 : List Nat := [0, 1, 3, 7, 15, 0, 32, 96, 224, 31, 1023]
theorem walkmilllaw05_Green_field.tab6 : rtab .any (opsOf Tryd.f7 6) = walkmilllaw05_Green_field.T6 := by kernel_rfl
theorem walkmilllaw05_Green_field.bits6 : waitsOk walkmilllaw05_Green_field.T6.2 walkmilllaw05_Green_field.B6 = true := by kernel_rfl
def walkmilllaw05_Green_field.T7 : Bool × List (List Nat × List Nat) := (true, [([], []), ([0], [0]), ([], []), ([], []), ([], []), ([4], [4]), ([5], [5]), ([6], [6]), ([3, 7], [3, 7]), ([2, 8], [2, 8]), ([], []), ([], []), ([], []), ([12], [12]), ([13], [13]), ([14], [14]), ([11, 15], [11, 15]), ([10, 16, 9], [10, 16]), ([9, 17], [9, 17]), ([18], [18]), ([1, 19, 17], [1, 19]), ([0, 1, 2, 3, 4, 5, 6, 7, 8, 9, 10, 11, 12, 13, 14, 15, 16, 17, 18, 19, 20], []), ([21, 20, 20, 0, 1, 2, 3, 4, 5, 6, 7, 8, 9, 10, 11, 12, 13, 14, 15, 16, 17, 18, 19, 20], [20, 21])])
def walkmilllaw05_Green_field.B7 : List Nat := [0, 1, 0, 0, 0, 16, 48, 112, 248, 508, 0, 0, 0, 4096, 12288, 28672, 63488, 131068, 262140, 524284, 1048575, 2097151, 4194303]
theorem walkmilllaw05_Green_field.tab7 : rtab .any (opsOf Tryd.f7 7) = walkmilllaw05_Green_field.T7 := by kernel_rfl
theorem walkmilllaw05_Green_field.bits7 : waitsOk walkmilllaw05_Green_field.T7.2 walkmilllaw05_Green_field.B7 = true := by kernel_rfl
def walkmilllaw05_Green_field.T11 : Bool × List (List Nat × List Nat) := (true, [([], []), ([0], [0]), ([], []), ([], []), ([3, 2], [2, 3]), ([4], [4]), ([5], [5]), ([6], [6]), ([7], [7]), ([8], [8]), ([1, 9], [1, 9]), ([0, 1, 2, 3, 4, 5, 6, 7, 8, 9, 10], []), ([11, 10, 10, 0, 1, 2, 3, 4, 5, 6, 7, 8, 9, 10], [10, 11])])
def walkmilllaw05_Green_field.B11 : List Nat := [0, 1, 0, 0, 12, 28, 60, 124, 252, 508, 1023, 2047, 4095]
theorem walkmilllaw05_Green_field.tab11 : rtab .any (opsOf Tryd.f7 11) = walkmilllaw05_Green_field.T11 := by kernel_rfl
theorem walkmilllaw05_Green_field.bits11 : waitsOk walkmilllaw05_Green_field.T11.2 walkmilllaw05_Green_field.B11 = true := by kernel_rfl
set_option maxHeartbeats 8000000 in
set_option maxRecDepth 100000 in
theorem walkmilllaw05_Green_field.calls (k : Nat) (A0_0 : Option Addr) (c0_0 : Nat) (l0_0 : List (S71)) (a0_1 : Int) (a0_2 : Int) (a0_3 : Int) (a0_4 : Int) (a0_5 : Int) (A0_6 : Option Addr) (c0_6 : Nat) (l0_6 : List (S65)) (r1 : List (S42)) (r2 : List Int) (r3 : Int) (r4 : Int) (w : World) (hr0_0 : Kd.C k71 w A0_0 l0_0.length l0_0) (hc0_0 : l0_0.length ≤ c0_0) (hr0_6 : Kd.C k65 w A0_6 l0_6.length l0_6) (hc0_6 : l0_6.length ≤ c0_6) (h : walkmilllaw05_Green_field.f k l0_0 a0_1 a0_2 a0_3 a0_4 a0_5 l0_6 = some (r1, r2, r3, r4)) :
  Calls Tryd.prog 7 #[.agg #[.slice A0_0 l0_0.length c0_0, .int .u8 a0_1, .int .u8 a0_2, .int .u8 a0_3, .int .u8 a0_4, .int .u8 a0_5, .slice A0_6 l0_6.length c0_6]] w fun e w' => ∃ v0_ v1_ : Value, e = .returned (.agg #[v0_, v1_, .int .i64 r3, .int .i64 r4]) ∧ Kd.R k42 42 w' w.heap.size (fun _ => True) v0_ r1 ∧ Kd.R (Kd.int .i64) 3 w' w.heap.size (fun _ => True) v1_ r2 ∧ Below w.heap.size w w' := by
 have hu26 := Tryd.underlying26
 have hu32 := Tryd.underlying32
 have hu71 := Tryd.underlying71
 have hu42 := Tryd.underlying42
 have HR0_0 := Aside0.mk hr0_0
 have HC0_0 := Aside0.mk hc0_0
 clear hr0_0 hc0_0
 have HR0_6 := Aside0.mk hr0_6
 have HC0_6 := Aside0.mk hc0_6
 clear hr0_6 hc0_6
 have HB := Aside0.mk (Below.refl w.heap.size w)
 have H : (walkmilllaw05_Green_field.l0 k 0 l0_0 a0_1 a0_2 a0_3 a0_4 a0_5 l0_6 ([] : List (S42)) (Int.tmod (wrap64 (a0_4)) 30) (Int.tmod (wrap64 (a0_5)) 120)) = some (r1, r2, r3, r4) := h
 clear h
 have H' := Aside0.mk H
 clear H
 go_enter Tryd.func7, Tryd.ntmps7
 go_wp2_with (first | ((with_reducible refine gate_dst (N := 1) rfl ?_); refine bx 1 #[.slice A0_0 l0_0.length c0_0, .int .u8 a0_1, .int .u8 a0_2, .int .u8 a0_3, .int .u8 a0_4, .int .u8 a0_5, .slice A0_6 l0_6.length c0_6] 26 ?_; intro gb101 hg w2 hbox hb; have BK101 := hbox; have GW101 := gs HB hg; have GE101 := gs HB hg; replace HB := bs HB hb; clear hb hbox hg) | ((with_reducible refine gate_dst (N := 2) rfl ?_); refine bx 2 #[.slice none 0 0, .slice none 0 0, .int .i64 0, .int .i64 0] 32 ?_; intro gb102 hg w3 hbox hb; have BK102 := hbox; have GW102 := gs HB hg; have GE102 := gs HB hg; replace HB := bs HB hb; have NB101_102 := nl BK101 hg; have NB102_101 := nr BK101 hg; replace BK101 := bb BK101 hb; clear hb hbox hg; have hnb4 := NB101_102.out; have hnc4 := NB102_101.out; obtain ⟨hcz5_0, hcz5_1, hcz5_2, hcz5_3, hcz5_4, hcz5_5, hcz5_6, hfz5_0, hfz5_1, hfz5_2, hfz5_3, hfz5_4, hfz5_5, hfz5_6⟩ := cf7 BK101) | ((with_reducible refine gate_dst (N := 3) rfl ?_); refine bx 3 #[.slice none 0 0, .slice none 0 0, .int .i64 0, .int .i64 0] 32 ?_; intro gb103 hg w6 hbox hb; have BK103 := hbox; have GW103 := gs HB hg; have GE103 := gs HB hg; replace HB := bs HB hb; have NB101_103 := nl BK101 hg; have NB103_101 := nr BK101 hg; replace BK101 := bb BK101 hb; have NB102_103 := nl BK102 hg; have NB103_102 := nr BK102 hg; replace BK102 := bb BK102 hb; clear hb hbox hg; have hnb7 := NB103_101.out; have hnc7 := NB101_103.out; have hnb8 := NB103_102.out; have hnc8 := NB102_103.out; obtain ⟨hcz9_0, hcz9_1, hcz9_2, hcz9_3, hfz9_0, hfz9_1, hfz9_2, hfz9_3⟩ := cf4 BK103))
 go_loopg [4] k (fun kq v4 w' => ∃ (x4_1 : Int) (x104000_1 : List (S42)) (u104000 : Value), v4 = .int .i64 x4_1 ∧ Aside0 (walkmilllaw05_Green_field.l0 kq x4_1 l0_0 a0_1 a0_2 a0_3 a0_4 a0_5 l0_6 x104000_1 (Int.tmod (wrap64 (a0_4)) 30) (Int.tmod (wrap64 (a0_5)) 120) = some (r1, r2, r3, r4)) ∧ Aside0 (kq ≤ k) ∧ Aside0 (Kd.R k42 42 w' w.heap.size (fun _ => True) u104000 x104000_1) ∧ Aside0 (w'.heap[gb101]? = some (.cells #[(.slice A0_0 l0_0.length c0_0), .int .u8 a0_1, .int .u8 a0_2, .int .u8 a0_3, .int .u8 a0_4, .int .u8 a0_5, (.slice A0_6 l0_6.length c0_6)] 26 (0, 0))) ∧ Aside0 (w'.heap[gb102]? = some (.cells #[(.slice none 0 0), (.slice none 0 0), .int .i64 0, .int .i64 0] 32 (0, 0))) ∧ Aside0 (w'.heap[gb103]? = some (.cells #[u104000, (.slice none 0 0), .int .i64 (Int.tmod (wrap64 (a0_4)) 30), .int .i64 (Int.tmod (wrap64 (a0_5)) 120)] 32 (0, 0))) ∧ Aside0 (Below w.heap.size w w'))
 case atStart => exact ⟨(0), (([] : List (S42))), (.slice none 0 0), (by first | rfl | (simp; done) | (simp [*]; done)), H', ⟨Nat.le_refl _⟩, ⟨by first | exact Kd.R_nil _ _ _ _ _ | exact Kd.N_nil _ _ _ _ _ | exact Kd.V_nil _ _ _ _ _ | exact Kd.Q_nil _ _ _ _ _ | exact Kd.S_nil _ _ _ _ _⟩, ⟨by refine pB ?_; refine blk_far ?_ NB101_103.out _; refine pB ?_; refine blk_far ?_ NB101_103.out _; refine pB ?_; refine blk_far ?_ NB101_103.out _; refine pB ?_; refine blk_far ?_ NB101_103.out _; (with_reducible repeat (first | refine blk_drewN ?_ _ | refine blk_drew ?_ | refine blk_alloc ?_ _)); exact BK101.out⟩, ⟨by refine pB ?_; refine blk_far ?_ NB102_103.out _; refine pB ?_; refine blk_far ?_ NB102_103.out _; refine pB ?_; refine blk_far ?_ NB102_103.out _; refine pB ?_; refine blk_far ?_ NB102_103.out _; (with_reducible repeat (first | refine blk_drewN ?_ _ | refine blk_drew ?_ | refine blk_alloc ?_ _)); exact BK102.out⟩, ⟨by refine pB ?_; refine blk_put (cs := #[.slice none 0 0, .slice none 0 0, .int .i64 (Int.tmod (wrap64 (a0_4)) 30), .int .i64 0]) ?_ 3 _ rfl; refine pB ?_; refine blk_put (cs := #[.slice none 0 0, .slice none 0 0, .int .i64 0, .int .i64 0]) ?_ 2 _ rfl; refine pB ?_; refine blk_put (cs := #[.slice none 0 0, .slice none 0 0, .int .i64 0, .int .i64 0]) ?_ 1 _ rfl; refine pB ?_; refine blk_put (cs := #[.slice none 0 0, .slice none 0 0, .int .i64 0, .int .i64 0]) ?_ 0 _ rfl; (with_reducible repeat (first | refine blk_drewN ?_ _ | refine blk_drew ?_ | refine blk_alloc ?_ _)); exact BK103.out⟩, ⟨pE HB⟩⟩
 case round =>
  clear H'
  try clear p2
  try clear c4
  try clear p6
  try clear c7
  try clear c8
  try clear hcz5_0
  try clear hcz5_1
  try clear hcz5_2
  try clear hcz5_3
  try clear hcz5_4
  try clear hcz5_5
  try clear hcz5_6
  try clear hcz9_0
  try clear hcz9_1
  try clear hcz9_2
  try clear hcz9_3
  try clear hfz5_0
  try clear hfz5_1
  try clear hfz5_2
  try clear hfz5_3
  try clear hfz5_4
  try clear hfz5_5
  try clear hfz5_6
  try clear hfz9_0
  try clear hfz9_1
  try clear hfz9_2
  try clear hfz9_3
  obtain ⟨x4_1, x104000_1, u104000, rfl, HA, HK1, HO_104000, BK101, BK102, BK103, HB⟩ := hrel
  cases gk with
  | zero => exact absurd HA.out (by simp [walkmilllaw05_Green_field.l0])
  | succ k1 =>
   have H := HA.out
   clear HA
   simp only [walkmilllaw05_Green_field.l0] at H
   have HC10 := Aside0.mk H
   clear H
   go_upto_region 3 with (fail)
   go_cut [26] (fun v26 wc => ∃ (kq : Nat) (x26_9 : Bool), v26 = .bool x26_9 ∧ Aside0 (walkmilllaw05_Green_field.j1 kq x4_1 x26_9 l0_0 a0_1 a0_2 a0_3 a0_4 a0_5 l0_6 x104000_1 (Int.tmod (wrap64 (a0_4)) 30) (Int.tmod (wrap64 (a0_5)) 120) = some (r1, r2, r3, r4)) ∧ Aside0 (kq ≤ k1) ∧ Aside0 (Kd.R k42 42 wc w.heap.size (fun _ => True) u104000 x104000_1) ∧ Aside0 (wc.heap[gb101]? = some (.cells #[(.slice A0_0 l0_0.length c0_0), .int .u8 a0_1, .int .u8 a0_2, .int .u8 a0_3, .int .u8 a0_4, .int .u8 a0_5, (.slice A0_6 l0_6.length c0_6)] 26 (0, 0))) ∧ Aside0 (wc.heap[gb102]? = some (.cells #[(.slice none 0 0), (.slice none 0 0), .int .i64 0, .int .i64 0] 32 (0, 0))) ∧ Aside0 (wc.heap[gb103]? = some (.cells #[u104000, (.slice none 0 0), .int .i64 (Int.tmod (wrap64 (a0_4)) 30), .int .i64 (Int.tmod (wrap64 (a0_5)) 120)] 32 (0, 0))) ∧ Aside0 (Below w.heap.size w wc))
   case first =>
    have H := HC10.out
    clear HC10
    by_cases c11 : x4_1 < (l0_0.length : Int)
    ·rw [if_pos c11] at H
     have c11b0 : decide (x4_1 < (l0_0.length : Int)) = true := decide_eq_true c11
     clear c11
     (first | rw [c11b0] | (simp only [i64_w, i32_w]; rw [c11b0]) | skip)
     have H' := Aside0.mk H
     clear H
     have hnb12 := NB101_102.out
     have hnc12 := NB102_101.out
     have hnb13 := NB101_103.out
     have hnc13 := NB103_101.out
     obtain ⟨hcz14_0, hcz14_1, hcz14_2, hcz14_3, hcz14_4, hcz14_5, hcz14_6, hfz14_0, hfz14_1, hfz14_2, hfz14_3, hfz14_4, hfz14_5, hfz14_6⟩ := cf7 BK101
     go_wp2
     go_meet
     case rel => exact ⟨_, (decide (x4_1 < 6)), (by first | rfl | (simp; done) | (simp [*]; done)), H', ⟨by have := HK1.out; first | omega | exact Nat.le_refl _⟩, ⟨by (with_reducible repeat (first | apply Kd.R_alloc | apply Kd.R_drewN | apply Kd.R_drew)); exact HO_104000.out⟩, ⟨by (with_reducible repeat (first | refine blk_drewN ?_ _ | refine blk_drew ?_ | refine blk_alloc ?_ _)); exact BK101.out⟩, ⟨by (with_reducible repeat (first | refine blk_drewN ?_ _ | refine blk_drew ?_ | refine blk_alloc ?_ _)); exact BK102.out⟩, ⟨by (with_reducible repeat (first | refine blk_drewN ?_ _ | refine blk_drew ?_ | refine blk_alloc ?_ _)); exact BK103.out⟩, ⟨pE HB⟩⟩
    ·rw [if_neg c11] at H
     have c11b0 : decide (x4_1 < (l0_0.length : Int)) = false := decide_eq_false c11
     clear c11
     (first | rw [c11b0] | (simp only [i64_w, i32_w]; rw [c11b0]) | skip)
     have H' := Aside0.mk H
     clear H
     have hnb15 := NB101_102.out
     have hnc15 := NB102_101.out
     have hnb16 := NB101_103.out
     have hnc16 := NB103_101.out
     obtain ⟨hcz17_0, hcz17_1, hcz17_2, hcz17_3, hcz17_4, hcz17_5, hcz17_6, hfz17_0, hfz17_1, hfz17_2, hfz17_3, hfz17_4, hfz17_5, hfz17_6⟩ := cf7 BK101
     go_wp2
     go_meet
     case rel => exact ⟨_, (false), (by first | rfl | (simp; done) | (simp [*]; done)), H', ⟨by have := HK1.out; first | omega | exact Nat.le_refl _⟩, ⟨by (with_reducible repeat (first | apply Kd.R_alloc | apply Kd.R_drewN | apply Kd.R_drew)); exact HO_104000.out⟩, ⟨by (with_reducible repeat (first | refine blk_drewN ?_ _ | refine blk_drew ?_ | refine blk_alloc ?_ _)); exact BK101.out⟩, ⟨by (with_reducible repeat (first | refine blk_drewN ?_ _ | refine blk_drew ?_ | refine blk_alloc ?_ _)); exact BK102.out⟩, ⟨by (with_reducible repeat (first | refine blk_drewN ?_ _ | refine blk_drew ?_ | refine blk_alloc ?_ _)); exact BK103.out⟩, ⟨pE HB⟩⟩
   case rest =>
    clear HC10
    try clear c1
    try clear p2
    try clear c4
    try clear p6
    try clear c7
    try clear c8
    try clear c11
    try clear c11b0
    try clear c12
    try clear c13
    try clear c15
    try clear c16
    try clear hcz14_0
    try clear hcz14_1
    try clear hcz14_2
    try clear hcz14_3
    try clear hcz14_4
    try clear hcz14_5
    try clear hcz14_6
    try clear hcz17_0
    try clear hcz17_1
    try clear hcz17_2
    try clear hcz17_3
    try clear hcz17_4
    try clear hcz17_5
    try clear hcz17_6
    try clear hcz5_0
    try clear hcz5_1
    try clear hcz5_2
    try clear hcz5_3
    try clear hcz5_4
    try clear hcz5_5
    try clear hcz5_6
    try clear hcz9_0
    try clear hcz9_1
    try clear hcz9_2
    try clear hcz9_3
    try clear hfz14_0
    try clear hfz14_1
    try clear hfz14_2
    try clear hfz14_3
    try clear hfz14_4
    try clear hfz14_5
    try clear hfz14_6
    try clear hfz17_0
    try clear hfz17_1
    try clear hfz17_2
    try clear hfz17_3
    try clear hfz17_4
    try clear hfz17_5
    try clear hfz17_6
    try clear hfz5_0
    try clear hfz5_1
    try clear hfz5_2
    try clear hfz5_3
    try clear hfz5_4
    try clear hfz5_5
    try clear hfz5_6
    try clear hfz9_0
    try clear hfz9_1
    try clear hfz9_2
    try clear hfz9_3
    try clear p2
    try clear p6
    obtain ⟨kq, x26_9, rfl, HA, HJ9, HO_104000, BK101, BK102, BK103, HB⟩ := hcut
    cases kq with
    | zero => exact absurd HA.out (by simp [walkmilllaw05_Green_field.j1])
    | succ kj9 =>
     have H := HA.out
     clear HA
     simp only [walkmilllaw05_Green_field.j1] at H
     by_cases c18 : x26_9 = true
     ·subst c18
      rw [if_pos rfl] at H
      by_cases c19 : 0 ≤ x4_1
      ·rw [if_pos c19] at H
       have c19b0 : decide (0 ≤ x4_1) = true := decide_eq_true c19
       clear c19
       by_cases c20 : x4_1 < (l0_0.length : Int)
       ·rw [if_pos c20] at H
        have c20b0 : decide (x4_1 < (l0_0.length : Int)) = true := decide_eq_true c20
        clear c20
        obtain ⟨⟨t106, t107⟩, A21, H⟩ := bi H
        obtain ⟨⟨t108, t109⟩, A22, H⟩ := bi H
        by_cases c23 : x104000_1.length < 4398046511104
        ·rw [if_pos c23] at H
         have LMc23 := Aside0.mk c23
         clear c23
         obtain ⟨y110, hy110⟩ : ∃ y_ : List (S42), y_ = (x104000_1 ++ [(⟨(⟨t106, t107⟩ : S40), (⟨t108, t109⟩ : S40)⟩ : S42)]) := ⟨_, rfl⟩
         replace H : (walkmilllaw05_Green_field.l0 kj9 (wrap64 (x4_1 + 1)) l0_0 a0_1 a0_2 a0_3 a0_4 a0_5 l0_6 y110 (Int.tmod (wrap64 (a0_4)) 30) (Int.tmod (wrap64 (a0_5)) 120)) = some (r1, r2, r3, r4) := yy hy110 H
         have Ny110 := Aside0.mk hy110
         clear hy110
         have H' := Aside0.mk H
         clear H
         have hnb24 := NB101_102.out
         have hnc24 := NB102_101.out
         have hnb25 := NB101_103.out
         have hnc25 := NB103_101.out
         obtain ⟨hcz26_0, hcz26_1, hcz26_2, hcz26_3, hcz26_4, hcz26_5, hcz26_6, hfz26_0, hfz26_1, hfz26_2, hfz26_3, hfz26_4, hfz26_5, hfz26_6⟩ := cf7 BK101
         have p104 : 0 ≤ (x4_1 : Int) := dT
         have q104 : x4_1 < (l0_0.length : Int) := dT
         obtain ⟨ad104, e104, hx104_0, hx104_1, hx104_2, hx104_3⟩ := at_T71 HR0_0.out x4_1 p104 q104
         cases e104
         replace hx104_0 := cut_ HB hx104_0
         replace hx104_1 := cut_ HB hx104_1
         replace hx104_2 := cut_ HB hx104_2
         replace hx104_3 := cut_ HB hx104_3
         replace p104 := eq_true p104
         replace q104 := eq_true q104
         try go_wp2_with (first | ((with_reducible refine gate_dst (N := 5) rfl ?_); refine bx 5 #[.int .u8 0, .int .u8 0, .int .u8 0, .int .u8 0] 71 ?_; intro gb105 hg w27 hbox hb; replace HO_104000 := rb HO_104000 hb; have BK105 := hbox; have GW105 := gs HB hg; have GE105 := gs HB hg; replace HB := bs HB hb; have NB101_105 := nl BK101 hg; have NB105_101 := nr BK101 hg; replace BK101 := bb BK101 hb; have NB102_105 := nl BK102 hg; have NB105_102 := nr BK102 hg; replace BK102 := bb BK102 hb; have NB103_105 := nl BK103 hg; have NB105_103 := nr BK103 hg; replace BK103 := bb BK103 hb; clear hb hbox hg; have hnb28 := NB105_101.out; have hnc28 := NB101_105.out; have hnb29 := NB105_102.out; have hnc29 := NB102_105.out; have hnb30 := NB105_103.out; have hnc30 := NB103_105.out; obtain ⟨hcz31_0, hcz31_1, hcz31_2, hcz31_3, hfz31_0, hfz31_1, hfz31_2, hfz31_3⟩ := cf4 BK105))
         have n0_ : Aside0 (Kd.R k42 42 ((((w27.setCell ⟨gb105, 0, none⟩ (.int .u8 ((rd_T71 l0_0 x4_1).f0))).setCell ⟨gb105, 1, none⟩ (.int .u8 ((rd_T71 l0_0 x4_1).f1))).setCell ⟨gb105, 2, none⟩ (.int .u8 ((rd_T71 l0_0 x4_1).f2))).setCell ⟨gb105, 3, none⟩ (.int .u8 ((rd_T71 l0_0 x4_1).f3))) w.heap.size (fun _ => True) u104000 x104000_1) := ⟨by (with_reducible repeat (first | apply Kd.R_alloc | apply Kd.R_drewN | apply Kd.R_drew)); exact Kd.R_mono (Kd.R_far (p := ⟨gb105, 3, none⟩) (Kd.R_far (p := ⟨gb105, 2, none⟩) (Kd.R_far (p := ⟨gb105, 1, none⟩) (Kd.R_far (p := ⟨gb105, 0, none⟩) (Kd.R_types HO_104000.out BK105.out (by decide)) (fun _ hk => hk.2) (.int .u8 ((rd_T71 l0_0 x4_1).f0))) (fun _ hk => hk.2) (.int .u8 ((rd_T71 l0_0 x4_1).f1))) (fun _ hk => hk.2) (.int .u8 ((rd_T71 l0_0 x4_1).f2))) (fun _ hk => hk.2) (.int .u8 ((rd_T71 l0_0 x4_1).f3))) (fun _ hk => trivial)⟩
         have n1_ : Aside0 (((((w27.setCell ⟨gb105, 0, none⟩ (.int .u8 ((rd_T71 l0_0 x4_1).f0))).setCell ⟨gb105, 1, none⟩ (.int .u8 ((rd_T71 l0_0 x4_1).f1))).setCell ⟨gb105, 2, none⟩ (.int .u8 ((rd_T71 l0_0 x4_1).f2))).setCell ⟨gb105, 3, none⟩ (.int .u8 ((rd_T71 l0_0 x4_1).f3))).heap[gb101]? = some (.cells #[.slice (some ad104) l0_0.length c0_0, .int .u8 a0_1, .int .u8 a0_2, .int .u8 a0_3, .int .u8 a0_4, .int .u8 a0_5, .slice A0_6 l0_6.length c0_6] 26 (0, 0))) := ⟨by refine pB ?_; refine blk_far ?_ NB101_105.out _; refine pB ?_; refine blk_far ?_ NB101_105.out _; refine pB ?_; refine blk_far ?_ NB101_105.out _; refine pB ?_; refine blk_far ?_ NB101_105.out _; (with_reducible repeat (first | refine blk_drewN ?_ _ | refine blk_drew ?_ | refine blk_alloc ?_ _)); exact BK101.out⟩
         have n2_ : Aside0 (((((w27.setCell ⟨gb105, 0, none⟩ (.int .u8 ((rd_T71 l0_0 x4_1).f0))).setCell ⟨gb105, 1, none⟩ (.int .u8 ((rd_T71 l0_0 x4_1).f1))).setCell ⟨gb105, 2, none⟩ (.int .u8 ((rd_T71 l0_0 x4_1).f2))).setCell ⟨gb105, 3, none⟩ (.int .u8 ((rd_T71 l0_0 x4_1).f3))).heap[gb102]? = some (.cells #[.slice none 0 0, .slice none 0 0, .int .i64 0, .int .i64 0] 32 (0, 0))) := ⟨by refine pB ?_; refine blk_far ?_ NB102_105.out _; refine pB ?_; refine blk_far ?_ NB102_105.out _; refine pB ?_; refine blk_far ?_ NB102_105.out _; refine pB ?_; refine blk_far ?_ NB102_105.out _; (with_reducible repeat (first | refine blk_drewN ?_ _ | refine blk_drew ?_ | refine blk_alloc ?_ _)); exact BK102.out⟩
         have n3_ : Aside0 (((((w27.setCell ⟨gb105, 0, none⟩ (.int .u8 ((rd_T71 l0_0 x4_1).f0))).setCell ⟨gb105, 1, none⟩ (.int .u8 ((rd_T71 l0_0 x4_1).f1))).setCell ⟨gb105, 2, none⟩ (.int .u8 ((rd_T71 l0_0 x4_1).f2))).setCell ⟨gb105, 3, none⟩ (.int .u8 ((rd_T71 l0_0 x4_1).f3))).heap[gb103]? = some (.cells #[u104000, .slice none 0 0, .int .i64 (Int.tmod (wrap64 (a0_4)) 30), .int .i64 (Int.tmod (wrap64 (a0_5)) 120)] 32 (0, 0))) := ⟨by refine pB ?_; refine blk_far ?_ NB103_105.out _; refine pB ?_; refine blk_far ?_ NB103_105.out _; refine pB ?_; refine blk_far ?_ NB103_105.out _; refine pB ?_; refine blk_far ?_ NB103_105.out _; (with_reducible repeat (first | refine blk_drewN ?_ _ | refine blk_drew ?_ | refine blk_alloc ?_ _)); exact BK103.out⟩
         have n4_ : Aside0 (((((w27.setCell ⟨gb105, 0, none⟩ (.int .u8 ((rd_T71 l0_0 x4_1).f0))).setCell ⟨gb105, 1, none⟩ (.int .u8 ((rd_T71 l0_0 x4_1).f1))).setCell ⟨gb105, 2, none⟩ (.int .u8 ((rd_T71 l0_0 x4_1).f2))).setCell ⟨gb105, 3, none⟩ (.int .u8 ((rd_T71 l0_0 x4_1).f3))).heap[gb105]? = some (.cells #[.int .u8 ((rd_T71 l0_0 x4_1).f0), .int .u8 ((rd_T71 l0_0 x4_1).f1), .int .u8 ((rd_T71 l0_0 x4_1).f2), .int .u8 ((rd_T71 l0_0 x4_1).f3)] 71 (0, 0))) := ⟨by refine pB ?_; refine blk_put (cs := #[.int .u8 ((rd_T71 l0_0 x4_1).f0), .int .u8 ((rd_T71 l0_0 x4_1).f1), .int .u8 ((rd_T71 l0_0 x4_1).f2), .int .u8 0]) ?_ 3 _ rfl; refine pB ?_; refine blk_put (cs := #[.int .u8 ((rd_T71 l0_0 x4_1).f0), .int .u8 ((rd_T71 l0_0 x4_1).f1), .int .u8 0, .int .u8 0]) ?_ 2 _ rfl; refine pB ?_; refine blk_put (cs := #[.int .u8 ((rd_T71 l0_0 x4_1).f0), .int .u8 0, .int .u8 0, .int .u8 0]) ?_ 1 _ rfl; refine pB ?_; refine blk_put (cs := #[.int .u8 0, .int .u8 0, .int .u8 0, .int .u8 0]) ?_ 0 _ rfl; (with_reducible repeat (first | refine blk_drewN ?_ _ | refine blk_drew ?_ | refine blk_alloc ?_ _)); exact BK105.out⟩
         have n5_ : Aside0 (Below w.heap.size w ((((w27.setCell ⟨gb105, 0, none⟩ (.int .u8 ((rd_T71 l0_0 x4_1).f0))).setCell ⟨gb105, 1, none⟩ (.int .u8 ((rd_T71 l0_0 x4_1).f1))).setCell ⟨gb105, 2, none⟩ (.int .u8 ((rd_T71 l0_0 x4_1).f2))).setCell ⟨gb105, 3, none⟩ (.int .u8 ((rd_T71 l0_0 x4_1).f3)))) := ⟨pE HB⟩
         (try clear HO_104000)
         (try clear BK101)
         (try clear BK102)
         (try clear BK103)
         (try clear BK105)
         (try clear HB)
         generalize ((((w27.setCell ⟨gb105, 0, none⟩ (.int .u8 ((rd_T71 l0_0 x4_1).f0))).setCell ⟨gb105, 1, none⟩ (.int .u8 ((rd_T71 l0_0 x4_1).f1))).setCell ⟨gb105, 2, none⟩ (.int .u8 ((rd_T71 l0_0 x4_1).f2))).setCell ⟨gb105, 3, none⟩ (.int .u8 ((rd_T71 l0_0 x4_1).f3))) = w32 at n0_ n1_ n2_ n3_ n4_ n5_ ⊢
         have HO_104000 := n0_
         have BK101 := n1_
         have BK102 := n2_
         have BK103 := n3_
         have BK105 := n4_
         have HB := n5_
         clear n0_ n1_ n2_ n3_ n4_ n5_
         replace HO_104000 := Aside0.mk (Kd.R_drew HO_104000.out)
         replace BK101 := Aside0.mk (blk_drew BK101.out)
         replace BK102 := Aside0.mk (blk_drew BK102.out)
         replace BK103 := Aside0.mk (blk_drew BK103.out)
         replace BK105 := Aside0.mk (blk_drew BK105.out)
         replace HB := Aside0.mk (below_drew1 HB.out)
         refine start_ (n := 11) (S := fun w' => w'.cell? ⟨gb105, 0, none⟩ = some (.int .u8 ((rd_T71 l0_0 x4_1).f0)) ∧ w'.cell? ⟨gb105, 1, none⟩ = some (.int .u8 ((rd_T71 l0_0 x4_1).f1)) ∧ w'.cell? ⟨gb105, 2, none⟩ = some (.int .u8 ((rd_T71 l0_0 x4_1).f2)) ∧ w'.cell? ⟨gb105, 3, none⟩ = some (.int .u8 ((rd_T71 l0_0 x4_1).f3))) (ds := []) #[false, false, false, false, false, false, false, false, false, false, false] (by kernel_rfl) rfl rfl ⟨(blk_cell BK105.out 0).trans rfl, (blk_cell BK105.out 1).trans rfl, (blk_cell BK105.out 2).trans rfl, (blk_cell BK105.out 3).trans rfl⟩ (fun hHeld => ?_); refine with_tabW walkmilllaw05_Green_field.tab6 walkmilllaw05_Green_field.bits6 (fun HT_ HW_ => ?_)
         generalize w32.drew = w33 at HO_104000 BK101 BK102 BK103 BK105 HB hHeld ⊢
         refine pu 0 34 ?_
         refine pu 5 39 ?_
         refine tk 1 35 hHeld ?_
         refine pu 2 36 ?_
         refine pu 3 37 ?_
         refine pu 4 38 ?_
         refine pu 9 6 ?_
         refine tk 6 40 hHeld ?_
         refine pu 7 41 ?_
         refine pu 8 42 ?_
         refine pu 10 7 ?_
         refine done_ (done_of HT_.out (by kernel_rfl)) ?_
         try go_wp2
         replace HO_104000 := Aside0.mk (Kd.R_drew HO_104000.out)
         replace BK101 := Aside0.mk (blk_drew BK101.out)
         replace BK102 := Aside0.mk (blk_drew BK102.out)
         replace BK103 := Aside0.mk (blk_drew BK103.out)
         replace BK105 := Aside0.mk (blk_drew BK105.out)
         replace HB := Aside0.mk (below_drew1 HB.out)
         refine start_ (n := 23) (S := fun w' => w'.cell? ⟨gb103, 0, none⟩ = some (u104000) ∧ w'.cell? ⟨gb103, 1, none⟩ = some (.slice none 0 0) ∧ w'.cell? ⟨gb103, 2, none⟩ = some (.int .i64 (Int.tmod (wrap64 (a0_4)) 30)) ∧ w'.cell? ⟨gb103, 3, none⟩ = some (.int .i64 (Int.tmod (wrap64 (a0_5)) 120)) ∧ w'.cell? ⟨gb105, 0, none⟩ = some (.int .u8 ((rd_T71 l0_0 x4_1).f0)) ∧ w'.cell? ⟨gb105, 1, none⟩ = some (.int .u8 ((rd_T71 l0_0 x4_1).f1)) ∧ w'.cell? ⟨gb105, 2, none⟩ = some (.int .u8 ((rd_T71 l0_0 x4_1).f2)) ∧ w'.cell? ⟨gb105, 3, none⟩ = some (.int .u8 ((rd_T71 l0_0 x4_1).f3))) (ds := [22]) #[false, false, false, false, false, false, false, false, false, false, false, false, false, false, false, false, false, false, false, false, false, false, false] (by kernel_rfl) rfl rfl ⟨(blk_cell BK103.out 0).trans rfl, (blk_cell BK103.out 1).trans rfl, (blk_cell BK103.out 2).trans rfl, (blk_cell BK103.out 3).trans rfl, (blk_cell BK105.out 0).trans rfl, (blk_cell BK105.out 1).trans rfl, (blk_cell BK105.out 2).trans rfl, (blk_cell BK105.out 3).trans rfl⟩ (fun hHeld => ?_); refine with_tabW walkmilllaw05_Green_field.tab7 walkmilllaw05_Green_field.bits7 (fun HT_ HW_ => ?_)
         generalize w33.drew = w34 at HO_104000 BK101 BK102 BK103 BK105 HB hHeld ⊢
         refine pu 0 43 ?_
         refine pu 2 45 ?_
         refine pu 3 46 ?_
         refine pu 4 47 ?_
         refine pu 10 53 ?_
         refine pu 11 54 ?_
         refine pu 12 55 ?_
         refine tk 1 44 hHeld ?_
         refine tk 5 48 hHeld ?_
         refine pu 6 49 ?_
         refine pu 7 50 ?_
         refine pu 8 51 ?_
         refine tk 13 56 hHeld ?_
         refine pu 14 57 ?_
         refine pu 15 58 ?_
         refine pu 16 59 ?_
         refine on 9 (fun K hK => ?_)
         refine gO Tryd.func13 #[.int .i64 (wrap64 (40 + (wrap64 (2 * (wrap64 ((rd_T71 l0_0 x4_1).f0)))))), .int .i64 (wrap64 ((wrap64 (40 + (wrap64 (2 * (wrap64 ((rd_T71 l0_0 x4_1).f0)))))) + (Int.tmod (wrap64 ((rd_T71 l0_0 x4_1).f1)) 14)))] ?_
         with_reducible refine (walkmilllaw05_span.calls (wrap64 (40 + (wrap64 (2 * (wrap64 ((rd_T71 l0_0 x4_1).f0)))))) (wrap64 ((wrap64 (40 + (wrap64 (2 * (wrap64 ((rd_T71 l0_0 x4_1).f0)))))) + (Int.tmod (wrap64 ((rd_T71 l0_0 x4_1).f1)) 14))) t106 t107 _ A21.out).mono ?_
         rintro e w35 ⟨rfl, hb⟩
         refine ⟨_, rfl, ?_⟩
         replace HO_104000 := rb HO_104000 hb
         replace BK101 := bb BK101 hb
         replace BK102 := bb BK102 hb
         replace BK103 := bb BK103 hb
         replace BK105 := bb BK105 hb
         replace HB := bs HB hb
         (try clear hb)
         (try clear hb2)
         (try clear hk)
         (try clear hi)
         refine hK.out _ _ ⟨(blk_cell BK103.out 0).trans rfl, (blk_cell BK103.out 1).trans rfl, (blk_cell BK103.out 2).trans rfl, (blk_cell BK103.out 3).trans rfl, (blk_cell BK105.out 0).trans rfl, (blk_cell BK105.out 1).trans rfl, (blk_cell BK105.out 2).trans rfl, (blk_cell BK105.out 3).trans rfl⟩ (fun hHeld => ?_)
         clear hK K
         refine norm_ (a' := ?_) ?_ ?_
         rotate_left
         ·show Act.put _ (some 52) _ = _
          simp only [Act.put, List.setIfInBounds_toArray, List.set_cons_zero, List.set_cons_succ, i64_w, i32_w]
          rfl
         refine on 17 (fun K hK => ?_)
         refine gO Tryd.func13 #[.int .i64 (wrap64 (Int.tdiv (wrap64 ((rd_T71 l0_0 x4_1).f2)) 2)), .int .i64 (wrap64 ((wrap64 (Int.tdiv (wrap64 ((rd_T71 l0_0 x4_1).f2)) 2)) + (Int.tmod (wrap64 ((rd_T71 l0_0 x4_1).f3)) 20)))] ?_
         with_reducible refine (walkmilllaw05_span.calls (wrap64 (Int.tdiv (wrap64 ((rd_T71 l0_0 x4_1).f2)) 2)) (wrap64 ((wrap64 (Int.tdiv (wrap64 ((rd_T71 l0_0 x4_1).f2)) 2)) + (Int.tmod (wrap64 ((rd_T71 l0_0 x4_1).f3)) 20))) t108 t109 _ A22.out).mono ?_
         rintro e w36 ⟨rfl, hb⟩
         refine ⟨_, rfl, ?_⟩
         replace HO_104000 := rb HO_104000 hb
         replace BK101 := bb BK101 hb
         replace BK102 := bb BK102 hb
         replace BK103 := bb BK103 hb
         replace BK105 := bb BK105 hb
         replace HB := bs HB hb
         (try clear hb)
         (try clear hb2)
         (try clear hk)
         (try clear hi)
         refine hK.out _ _ ⟨(blk_cell BK103.out 0).trans rfl, (blk_cell BK103.out 1).trans rfl, (blk_cell BK103.out 2).trans rfl, (blk_cell BK103.out 3).trans rfl, (blk_cell BK105.out 0).trans rfl, (blk_cell BK105.out 1).trans rfl, (blk_cell BK105.out 2).trans rfl, (blk_cell BK105.out 3).trans rfl⟩ (fun hHeld => ?_)
         clear hK K
         refine norm_ (a' := ?_) ?_ ?_
         rotate_left
         ·show Act.put _ (some 60) _ = _
          simp only [Act.put, List.setIfInBounds_toArray, List.set_cons_zero, List.set_cons_succ, i64_w, i32_w]
          rfl
         refine pu 18 61 ?_
         refine on 19 (fun K hK => ?_)
         refine value_ (w1 := ?_) (v := ?_) (by rfl) rfl ?_ ?_
         rotate_left 2
         ·go_simp
          constructor
          ·rfl
          ·rfl
         refine hK.out _ _ ⟨(blk_cell (blk_alloc BK103.out _) 0).trans rfl, (blk_cell (blk_alloc BK103.out _) 1).trans rfl, (blk_cell (blk_alloc BK103.out _) 2).trans rfl, (blk_cell (blk_alloc BK103.out _) 3).trans rfl, (blk_cell (blk_alloc BK105.out _) 0).trans rfl, (blk_cell (blk_alloc BK105.out _) 1).trans rfl, (blk_cell (blk_alloc BK105.out _) 2).trans rfl, (blk_cell (blk_alloc BK105.out _) 3).trans rfl⟩ (fun hHeld => ?_)
         clear hK K
         refine norm_ (a' := ?_) ?_ ?_
         rotate_left
         ·show Act.put _ (some 62) _ = _
          simp only [Act.put, List.setIfInBounds_toArray, List.set_cons_zero, List.set_cons_succ, i64_w, i32_w]
          rfl
         refine on 20 (fun K hK => ?_)
         refine Kd.R_append_step k42 (w0 := w) w.heap.size (by rfl) (.tmp 44) (.tmp 62) 29 42 (.agg #[(.int .i64 0), (.int .i64 0), (.int .i64 0), (.int .i64 0)]) 32 rfl Tryd.underlying29 info42 rfl (by decide) (by omega) u104000 x104000_1 (⟨(⟨t106, t107⟩ : S40), (⟨t108, t109⟩ : S40)⟩ : S42) [.int .i64 t106, .int .i64 t107, .int .i64 t108, .int .i64 t109] (fun _ => True) (fun _ => False) rfl rfl ?aP (fun _ hk => hk.elim) ?aF ?aO ?aB ?aS ?aL ?_
         (case aP => exact k42_mkM _ _ _ (⟨(⟨t106, t107⟩ : S40), (⟨t108, t109⟩ : S40)⟩ : S42))
         (case aB => exact (pE HB))
         (case aF => exact (fun _ _ => trivial))
         (case aO => exact (pR HO_104000.out))
         (case aS => exact (below_size (pE HB)))
         (case aL => have := LMc23.out; omega)
         intro v111 w37 ho hb hg hat
         rw [← Ny110.out] at ho
         replace BK101 := Aside0.mk (blk_grown (g := gb101) (o := .cells #[.slice (some ad104) l0_0.length c0_0, .int .u8 a0_1, .int .u8 a0_2, .int .u8 a0_3, .int .u8 a0_4, .int .u8 a0_5, .slice A0_6 l0_6.length c0_6] 26 (0, 0)) (pB BK101.out) hg (Kd.R_ne HO_104000.out BK101.out (by decide)))
         replace BK102 := Aside0.mk (blk_grown (g := gb102) (o := .cells #[.slice none 0 0, .slice none 0 0, .int .i64 0, .int .i64 0] 32 (0, 0)) (pB BK102.out) hg (Kd.R_ne HO_104000.out BK102.out (by decide)))
         replace BK103 := Aside0.mk (blk_grown (g := gb103) (o := .cells #[u104000, .slice none 0 0, .int .i64 (Int.tmod (wrap64 (a0_4)) 30), .int .i64 (Int.tmod (wrap64 (a0_5)) 120)] 32 (0, 0)) (pB BK103.out) hg (Kd.R_ne HO_104000.out BK103.out (by decide)))
         replace BK105 := Aside0.mk (blk_grown (g := gb105) (o := .cells #[.int .u8 ((rd_T71 l0_0 x4_1).f0), .int .u8 ((rd_T71 l0_0 x4_1).f1), .int .u8 ((rd_T71 l0_0 x4_1).f2), .int .u8 ((rd_T71 l0_0 x4_1).f3)] 71 (0, 0)) (pB BK105.out) hg (Kd.R_ne HO_104000.out BK105.out (by decide)))
         replace HB := Aside0.mk (hb)
         have HO112 := Aside0.mk (ho)
         clear HO_104000 ho hb hg hat
         obtain ⟨Ao38, co38, eo38⟩ := Kd.R_slice HO112.out
         (first | subst eo38 | (injection eo38 with f1_ f2_ f3_; have f4_ := f1_.symm; have f5_ := f3_.symm; clear f1_ f2_ f3_; subst f4_; subst f5_))
         refine hK.out _ _ ⟨(blk_cell BK103.out 0).trans rfl, (blk_cell BK103.out 1).trans rfl, (blk_cell BK103.out 2).trans rfl, (blk_cell BK103.out 3).trans rfl, (blk_cell BK105.out 0).trans rfl, (blk_cell BK105.out 1).trans rfl, (blk_cell BK105.out 2).trans rfl, (blk_cell BK105.out 3).trans rfl⟩ (fun hHeld => ?_)
         clear hK K
         refine norm_ (a' := ?_) ?_ ?_
         rotate_left
         ·show Act.put _ (some 63) _ = _
          simp only [Act.put, List.setIfInBounds_toArray, List.set_cons_zero, List.set_cons_succ, i64_w, i32_w]
          rfl
         refine pu 21 64 ?_
         refine last_ (i := 22) (N := none) #[true, true, true, true, true, true, true, true, true, true, true, true, true, true, true, true, true, true, true, true, true, true, true] rfl rfl (one_of HT_.out (by kernel_rfl)) (by decide) (fun K hK => ?_)
         have hs39 : w37.cell? ⟨gb103, 0, none⟩ = some (u104000) := (blk_cell BK103.out 0).trans rfl
         have hfs39 := blk_frozen BK103.out 0
         have hns39_0 := NB101_103.out
         have hns39_1 := NB102_103.out
         have hns39_3 := NB105_103.out
         have hms39_0 := NB103_101.out
         have hms39_1 := NB103_102.out
         have hms39_3 := NB103_105.out
         refine skip_ (w1 := ?_) (by rfl) rfl ?_ ?_
         rotate_left
         ·go_simp
          rfl
         refine hK.out _ _ ?_
         clear hK K
         refine done_ (done_of HT_.out (by kernel_rfl)) ?_
         try go_wp2
         go_roundg kj9
         case measure => have := HK1.out; have := HJ9.out; omega
         case rel => exact ⟨(wrap64 (x4_1 + 1)), (y110), (.slice Ao38 y110.length co38), (by first | rfl | (simp; done) | (simp [*]; done)), H', ⟨by have := HK1.out; have := HJ9.out; omega⟩, ⟨by (with_reducible repeat (first | apply Kd.R_alloc | apply Kd.R_drewN | apply Kd.R_drew)); exact Kd.R_mono (Kd.R_far (p := ⟨gb103, 0, none⟩) (Kd.R_types HO112.out BK103.out (by decide)) (fun _ hk => hk.2) (.slice Ao38 y110.length co38)) (fun _ hk => trivial)⟩, ⟨by refine pB ?_; refine blk_far ?_ NB101_103.out _; (with_reducible repeat (first | refine blk_drewN ?_ _ | refine blk_drew ?_ | refine blk_alloc ?_ _)); exact BK101.out⟩, ⟨by refine pB ?_; refine blk_far ?_ NB102_103.out _; (with_reducible repeat (first | refine blk_drewN ?_ _ | refine blk_drew ?_ | refine blk_alloc ?_ _)); exact BK102.out⟩, ⟨by refine pB ?_; refine blk_put (cs := #[u104000, .slice none 0 0, .int .i64 (Int.tmod (wrap64 (a0_4)) 30), .int .i64 (Int.tmod (wrap64 (a0_5)) 120)]) ?_ 0 _ rfl; (with_reducible repeat (first | refine blk_drewN ?_ _ | refine blk_drew ?_ | refine blk_alloc ?_ _)); exact BK103.out⟩, ⟨pE HB⟩⟩
        ·rw [if_neg c23] at H
         exact absurd H (by simp)
       ·rw [if_neg c20] at H
        exact absurd H (by simp)
      ·rw [if_neg c19] at H
       exact absurd H (by simp)
     ·replace c18 := Bool.eq_false_iff.mpr c18
      subst c18
      rw [if_neg (show ¬ (false = true) by decide)] at H
      have H' := Aside0.mk H
      clear H
      go_wp2
      go_loopg [8] kj9 (fun kq v8 w' => ∃ (x8_3 : Int) (x104001_3 : List Int) (u104001 : Value), v8 = .int .i64 x8_3 ∧ Aside0 (walkmilllaw05_Green_field.l1 kq x8_3 l0_0 a0_1 a0_2 a0_3 a0_4 a0_5 l0_6 x104000_1 x104001_3 (Int.tmod (wrap64 (a0_4)) 30) (Int.tmod (wrap64 (a0_5)) 120) = some (r1, r2, r3, r4)) ∧ Aside0 (kq ≤ kj9) ∧ Aside0 (Kd.R k42 42 w' w.heap.size (fun _ => True) u104000 x104000_1) ∧ Aside0 (Kd.R (Kd.int .i64) 3 w' w.heap.size (fun _ => True) u104001 x104001_3) ∧ Aside0 (w'.heap[gb101]? = some (.cells #[(.slice A0_0 l0_0.length c0_0), .int .u8 a0_1, .int .u8 a0_2, .int .u8 a0_3, .int .u8 a0_4, .int .u8 a0_5, (.slice A0_6 l0_6.length c0_6)] 26 (0, 0))) ∧ Aside0 (w'.heap[gb102]? = some (.cells #[(.slice none 0 0), (.slice none 0 0), .int .i64 0, .int .i64 0] 32 (0, 0))) ∧ Aside0 (w'.heap[gb103]? = some (.cells #[u104000, u104001, .int .i64 (Int.tmod (wrap64 (a0_4)) 30), .int .i64 (Int.tmod (wrap64 (a0_5)) 120)] 32 (0, 0))) ∧ Aside0 (Below w.heap.size w w'))
      case atStart => exact ⟨(0), (([] : List Int)), (.slice none 0 0), (by first | rfl | (simp; done) | (simp [*]; done)), H', ⟨Nat.le_refl _⟩, ⟨by (with_reducible repeat (first | apply Kd.R_alloc | apply Kd.R_drewN | apply Kd.R_drew)); exact HO_104000.out⟩, ⟨by first | exact Kd.R_nil _ _ _ _ _ | exact Kd.N_nil _ _ _ _ _ | exact Kd.V_nil _ _ _ _ _ | exact Kd.Q_nil _ _ _ _ _ | exact Kd.S_nil _ _ _ _ _⟩, ⟨by (with_reducible repeat (first | refine blk_drewN ?_ _ | refine blk_drew ?_ | refine blk_alloc ?_ _)); exact BK101.out⟩, ⟨by (with_reducible repeat (first | refine blk_drewN ?_ _ | refine blk_drew ?_ | refine blk_alloc ?_ _)); exact BK102.out⟩, ⟨by (with_reducible repeat (first | refine blk_drewN ?_ _ | refine blk_drew ?_ | refine blk_alloc ?_ _)); exact BK103.out⟩, ⟨pE HB⟩⟩
      case round =>
       clear H'
       try clear c1
       try clear p1
       try clear q1
       try clear hx1
       try clear c2
       try clear p2
       try clear c3
       try clear c4
       try clear p6
       try clear c7
       try clear c8
       try clear p10
       try clear q10
       try clear hx10
       try clear c11
       try clear c11b0
       try clear c12
       try clear c13
       try clear c15
       try clear c16
       try clear c18
       try clear c19
       try clear c19b0
       try clear c20
       try clear c20b0
       try clear c23
       try clear c24
       try clear c25
       try clear c28
       try clear c29
       try clear c30
       try clear hcz14_0
       try clear hcz14_1
       try clear hcz14_2
       try clear hcz14_3
       try clear hcz14_4
       try clear hcz14_5
       try clear hcz14_6
       try clear hcz17_0
       try clear hcz17_1
       try clear hcz17_2
       try clear hcz17_3
       try clear hcz17_4
       try clear hcz17_5
       try clear hcz17_6
       try clear hcz26_0
       try clear hcz26_1
       try clear hcz26_2
       try clear hcz26_3
       try clear hcz26_4
       try clear hcz26_5
       try clear hcz26_6
       try clear hcz31_0
       try clear hcz31_1
       try clear hcz31_2
       try clear hcz31_3
       try clear hcz5_0
       try clear hcz5_1
       try clear hcz5_2
       try clear hcz5_3
       try clear hcz5_4
       try clear hcz5_5
       try clear hcz5_6
       try clear hcz9_0
       try clear hcz9_1
       try clear hcz9_2
       try clear hcz9_3
       try clear hfz14_0
       try clear hfz14_1
       try clear hfz14_2
       try clear hfz14_3
       try clear hfz14_4
       try clear hfz14_5
       try clear hfz14_6
       try clear hfz17_0
       try clear hfz17_1
       try clear hfz17_2
       try clear hfz17_3
       try clear hfz17_4
       try clear hfz17_5
       try clear hfz17_6
       try clear hfz26_0
       try clear hfz26_1
       try clear hfz26_2
       try clear hfz26_3
       try clear hfz26_4
       try clear hfz26_5
       try clear hfz26_6
       try clear hfz31_0
       try clear hfz31_1
       try clear hfz31_2
       try clear hfz31_3
       try clear hfz5_0
       try clear hfz5_1
       try clear hfz5_2
       try clear hfz5_3
       try clear hfz5_4
       try clear hfz5_5
       try clear hfz5_6
       try clear hfz9_0
       try clear hfz9_1
       try clear hfz9_2
       try clear hfz9_3
       try clear hx104_0
       try clear hx104_1
       try clear hx104_2
       try clear hx104_3
       try clear p104
       try clear p2
       try clear p6
       try clear q104
       obtain ⟨x8_3, x104001_3, u104001, rfl, HA, HK3, HO_104000, HO_104001, BK101, BK102, BK103, HB⟩ := hrel
       cases gk with
       | zero => exact absurd HA.out (by simp [walkmilllaw05_Green_field.l1])
       | succ k3 =>
        have H := HA.out
        clear HA
        simp only [walkmilllaw05_Green_field.l1] at H
        by_cases c40 : x8_3 < (wrap64 (1 + (Int.tmod (wrap64 (Int.tdiv (wrap64 (a0_4)) 32)) 3)))
        ·rw [if_pos c40] at H
         have c40b0 : decide (x8_3 < (wrap64 (1 + (Int.tmod (wrap64 (Int.tdiv (wrap64 (a0_4)) 32)) 3)))) = true := decide_eq_true c40
         clear c40
         by_cases c41 : x8_3 = 0
         ·rw [if_pos c41] at H
          have c41b0 : (x8_3 == 0) = true := beq_iff_eq.mpr c41
          have c41b1 : (x8_3 != 0) = false := bne_eq_false_iff_eq.mpr c41
          have CXc41 := Aside0.mk c41
          clear c41
          by_cases c42 : x104001_3.length < 17592186044416
          ·rw [if_pos c42] at H
           have LMc42 := Aside0.mk c42
           clear c42
           obtain ⟨y113, hy113⟩ : ∃ y_ : List Int, y_ = (x104001_3 ++ [wrap64 (60 + (wrap64 (5 * (wrap64 (a0_1)))))]) := ⟨_, rfl⟩
           replace H : (walkmilllaw05_Green_field.l1 k3 (wrap64 (x8_3 + 1)) l0_0 a0_1 a0_2 a0_3 a0_4 a0_5 l0_6 x104000_1 y113 (Int.tmod (wrap64 (a0_4)) 30) (Int.tmod (wrap64 (a0_5)) 120)) = some (r1, r2, r3, r4) := yy hy113 H
           have Ny113 := Aside0.mk hy113
           clear hy113
           have H' := Aside0.mk H
           clear H
           have hnb43 := NB101_102.out
           have hnc43 := NB102_101.out
           have hnb44 := NB101_103.out
           have hnc44 := NB103_101.out
           obtain ⟨_, _, _, _, _, _, _, _, _, _, _, _, _, _⟩ := cf7 BK101
           try go_wp2
           replace HO_104000 := Aside0.mk (Kd.R_drew HO_104000.out)
           replace HO_104001 := Aside0.mk (Kd.R_drew HO_104001.out)
           replace BK101 := Aside0.mk (blk_drew BK101.out)
           replace BK102 := Aside0.mk (blk_drew BK102.out)
           replace BK103 := Aside0.mk (blk_drew BK103.out)
           replace HB := Aside0.mk (below_drew1 HB.out)
           refine start_ (n := 13) (S := fun w' => w'.cell? ⟨gb103, 0, none⟩ = some (u104000) ∧ w'.cell? ⟨gb103, 1, none⟩ = some (u104001) ∧ w'.cell? ⟨gb103, 2, none⟩ = some (.int .i64 (Int.tmod (wrap64 (a0_4)) 30)) ∧ w'.cell? ⟨gb103, 3, none⟩ = some (.int .i64 (Int.tmod (wrap64 (a0_5)) 120)) ∧ w'.cell? ⟨gb101, 0, none⟩ = some (.slice A0_0 l0_0.length c0_0) ∧ w'.cell? ⟨gb101, 1, none⟩ = some (.int .u8 a0_1) ∧ w'.cell? ⟨gb101, 2, none⟩ = some (.int .u8 a0_2) ∧ w'.cell? ⟨gb101, 3, none⟩ = some (.int .u8 a0_3) ∧ w'.cell? ⟨gb101, 4, none⟩ = some (.int .u8 a0_4) ∧ w'.cell? ⟨gb101, 5, none⟩ = some (.int .u8 a0_5) ∧ w'.cell? ⟨gb101, 6, none⟩ = some (.slice A0_6 l0_6.length c0_6)) (ds := [12]) #[false, false, false, false, false, false, false, false, false, false, false, false, false] (by kernel_rfl) rfl rfl ⟨(blk_cell BK103.out 0).trans rfl, (blk_cell BK103.out 1).trans rfl, (blk_cell BK103.out 2).trans rfl, (blk_cell BK103.out 3).trans rfl, (blk_cell BK101.out 0).trans rfl, (blk_cell BK101.out 1).trans rfl, (blk_cell BK101.out 2).trans rfl, (blk_cell BK101.out 3).trans rfl, (blk_cell BK101.out 4).trans rfl, (blk_cell BK101.out 5).trans rfl, (blk_cell BK101.out 6).trans rfl⟩ (fun hHeld => ?_); refine with_tabW walkmilllaw05_Green_field.tab11 walkmilllaw05_Green_field.bits11 (fun HT_ HW_ => ?_)
           generalize wr.drew = w46 at HO_104000 HO_104001 BK101 BK102 BK103 HB hHeld ⊢
           refine pu 0 75 ?_
           refine pu 2 77 ?_
           refine pu 3 78 ?_
           refine pure_ (i := 4) (N := some 79) (v := ?_) (a' := ?_) #[true, false, true, true, true, false, false, false, false, false, false, false, false] rfl rfl (any_of HT_.out (by kernel_rfl)) (fun _ _ _ h => h) (Or.inl ⟨by rfl, ?_⟩) ?_ ?_
           rotate_left
           ·intro w'
            go_simp
            refine Eq.trans (b := Result.ok (Next.value (Value.pointer (some ⟨gb101, 1, none⟩))) w') ?_ ?_
            ·rw [CXc41.out]; exact if_pos (by decide)
            ·with_reducible rfl
           rotate_left
           ·simp only [Act.put, List.setIfInBounds_toArray, List.set_cons_zero, List.set_cons_succ, i64_w, i32_w]
            rfl
           refine tk 1 76 hHeld ?_
           refine tk 5 80 hHeld ?_
           refine pu 6 81 ?_
           refine pu 7 82 ?_
           refine pu 8 83 ?_
           refine on 9 (fun K hK => ?_)
           refine value_ (w1 := ?_) (v := ?_) (by rfl) rfl ?_ ?_
           rotate_left 2
           ·go_simp
            constructor
            ·rfl
            ·rfl
           refine hK.out _ _ ⟨(blk_cell (blk_alloc BK103.out _) 0).trans rfl, (blk_cell (blk_alloc BK103.out _) 1).trans rfl, (blk_cell (blk_alloc BK103.out _) 2).trans rfl, (blk_cell (blk_alloc BK103.out _) 3).trans rfl, (blk_cell (blk_alloc BK101.out _) 0).trans rfl, (blk_cell (blk_alloc BK101.out _) 1).trans rfl, (blk_cell (blk_alloc BK101.out _) 2).trans rfl, (blk_cell (blk_alloc BK101.out _) 3).trans rfl, (blk_cell (blk_alloc BK101.out _) 4).trans rfl, (blk_cell (blk_alloc BK101.out _) 5).trans rfl, (blk_cell (blk_alloc BK101.out _) 6).trans rfl⟩ (fun hHeld => ?_)
           clear hK K
           refine norm_ (a' := ?_) ?_ ?_
           rotate_left
           ·show Act.put _ (some 84) _ = _
            simp only [Act.put, List.setIfInBounds_toArray, List.set_cons_zero, List.set_cons_succ, i64_w, i32_w]
            rfl
           refine on 10 (fun K hK => ?_)
           refine Kd.R_append_step (Kd.int .i64) (w0 := w) w.heap.size (by rfl) (.tmp 76) (.tmp 84) 30 3 (.int .i64 0) 8 rfl Tryd.underlying30 info3 rfl (by decide) (by omega) u104001 x104001_3 (wrap64 (60 + (wrap64 (5 * (wrap64 (a0_1)))))) [.int .i64 (wrap64 (60 + (wrap64 (5 * (wrap64 (a0_1))))))] (fun _ => True) (fun _ => False) rfl rfl ?aP (fun _ hk => hk.elim) ?aF ?aO ?aB ?aS ?aL ?_
           (case aP => exact rfl)
           (case aB => exact (pE HB))
           (case aF => exact (fun _ _ => trivial))
           (case aO => exact (pR HO_104001.out))
           (case aS => exact (below_size (pE HB)))
           (case aL => have := LMc42.out; omega)
           intro v114 w47 ho hb hg hat
           rw [← Ny113.out] at ho
           replace HO_104000 := Aside0.mk (Kd.R_over' (pR HO_104000.out) (Kd.R_typed (pR HO_104001.out)) (by decide) hg)
           replace BK101 := Aside0.mk (blk_grown (g := gb101) (o := .cells #[.slice A0_0 l0_0.length c0_0, .int .u8 a0_1, .int .u8 a0_2, .int .u8 a0_3, .int .u8 a0_4, .int .u8 a0_5, .slice A0_6 l0_6.length c0_6] 26 (0, 0)) (pB BK101.out) hg (Kd.R_ne HO_104001.out BK101.out (by decide)))
           replace BK102 := Aside0.mk (blk_grown (g := gb102) (o := .cells #[.slice none 0 0, .slice none 0 0, .int .i64 0, .int .i64 0] 32 (0, 0)) (pB BK102.out) hg (Kd.R_ne HO_104001.out BK102.out (by decide)))
           replace BK103 := Aside0.mk (blk_grown (g := gb103) (o := .cells #[u104000, u104001, .int .i64 (Int.tmod (wrap64 (a0_4)) 30), .int .i64 (Int.tmod (wrap64 (a0_5)) 120)] 32 (0, 0)) (pB BK103.out) hg (Kd.R_ne HO_104001.out BK103.out (by decide)))
           replace HB := Aside0.mk (hb)
           have HO115 := Aside0.mk (ho)
           clear HO_104001 ho hb hg hat
           obtain ⟨Ao48, co48, eo48⟩ := Kd.R_slice HO115.out
           (first | subst eo48 | (injection eo48 with f1_ f2_ f3_; have f4_ := f1_.symm; have f5_ := f3_.symm; clear f1_ f2_ f3_; subst f4_; subst f5_))
           refine hK.out _ _ ⟨(blk_cell BK103.out 0).trans rfl, (blk_cell BK103.out 1).trans rfl, (blk_cell BK103.out 2).trans rfl, (blk_cell BK103.out 3).trans rfl, (blk_cell BK101.out 0).trans rfl, (blk_cell BK101.out 1).trans rfl, (blk_cell BK101.out 2).trans rfl, (blk_cell BK101.out 3).trans rfl, (blk_cell BK101.out 4).trans rfl, (blk_cell BK101.out 5).trans rfl, (blk_cell BK101.out 6).trans rfl⟩ (fun hHeld => ?_)
           clear hK K
           refine norm_ (a' := ?_) ?_ ?_
           rotate_left
           ·show Act.put _ (some 85) _ = _
            simp only [Act.put, List.setIfInBounds_toArray, List.set_cons_zero, List.set_cons_succ, i64_w, i32_w]
            rfl
           refine pu 11 86 ?_
           refine last_ (i := 12) (N := none) #[true, true, true, true, true, true, true, true, true, true, true, true, true] rfl rfl (one_of HT_.out (by kernel_rfl)) (by decide) (fun K hK => ?_)
           have hs49 : w47.cell? ⟨gb103, 1, none⟩ = some (u104001) := (blk_cell BK103.out 1).trans rfl
           have hfs49 := blk_frozen BK103.out 1
           have hns49_0 := NB101_103.out
           have hns49_1 := NB102_103.out
           have hms49_0 := NB103_101.out
           have hms49_1 := NB103_102.out
           refine skip_ (w1 := ?_) (by rfl) rfl ?_ ?_
           rotate_left
           ·go_simp
            rfl
           refine hK.out _ _ ?_
           clear hK K
           refine done_ (done_of HT_.out (by kernel_rfl)) ?_
           try go_wp2
           go_roundg k3
           case measure => have := HK1.out; have := HJ9.out; have := HK3.out; omega
           case rel => exact ⟨(wrap64 (x8_3 + 1)), (y113), (.slice Ao48 y113.length co48), (by first | rfl | (simp; done) | (simp [*]; done)), H', ⟨by have := HK1.out; have := HJ9.out; have := HK3.out; omega⟩, ⟨by (with_reducible repeat (first | apply Kd.R_alloc | apply Kd.R_drewN | apply Kd.R_drew)); exact Kd.R_mono (Kd.R_far (p := ⟨gb103, 1, none⟩) (Kd.R_types HO_104000.out BK103.out (by decide)) (fun _ hk => hk.2) (.slice Ao48 y113.length co48)) (fun _ hk => trivial)⟩, ⟨by (with_reducible repeat (first | apply Kd.R_alloc | apply Kd.R_drewN | apply Kd.R_drew)); exact Kd.R_mono (Kd.R_far (p := ⟨gb103, 1, none⟩) (Kd.R_types HO115.out BK103.out (by decide)) (fun _ hk => hk.2) (.slice Ao48 y113.length co48)) (fun _ hk => trivial)⟩, ⟨by refine pB ?_; refine blk_far ?_ NB101_103.out _; (with_reducible repeat (first | refine blk_drewN ?_ _ | refine blk_drew ?_ | refine blk_alloc ?_ _)); exact BK101.out⟩, ⟨by refine pB ?_; refine blk_far ?_ NB102_103.out _; (with_reducible repeat (first | refine blk_drewN ?_ _ | refine blk_drew ?_ | refine blk_alloc ?_ _)); exact BK102.out⟩, ⟨by refine pB ?_; refine blk_put (cs := #[u104000, u104001, .int .i64 (Int.tmod (wrap64 (a0_4)) 30), .int .i64 (Int.tmod (wrap64 (a0_5)) 120)]) ?_ 1 _ rfl; (with_reducible repeat (first | refine blk_drewN ?_ _ | refine blk_drew ?_ | refine blk_alloc ?_ _)); exact BK103.out⟩, ⟨pE HB⟩⟩
          ·rw [if_neg c42] at H
           exact absurd H (by simp)
         ·rw [if_neg c41] at H
          have c41b0 : (x8_3 == 0) = false := beq_eq_false_iff_ne.mpr c41
          have c41b1 : (x8_3 != 0) = true := bne_iff_ne.mpr c41
          by_cases c50 : x8_3 = 1
          ·rw [if_pos c50] at H
           have c50b0 : (x8_3 == 1) = true := beq_iff_eq.mpr c50
           have c50b1 : (x8_3 != 1) = false := bne_eq_false_iff_eq.mpr c50
           have CXc50 := Aside0.mk c50
           clear c50
           by_cases c51 : x104001_3.length < 17592186044416
           ·rw [if_pos c51] at H
            have LMc51 := Aside0.mk c51
            clear c51
            obtain ⟨y116, hy116⟩ : ∃ y_ : List Int, y_ = (x104001_3 ++ [wrap64 (60 + (wrap64 (5 * (wrap64 (a0_2)))))]) := ⟨_, rfl⟩
            replace H : (walkmilllaw05_Green_field.l1 k3 (wrap64 (x8_3 + 1)) l0_0 a0_1 a0_2 a0_3 a0_4 a0_5 l0_6 x104000_1 y116 (Int.tmod (wrap64 (a0_4)) 30) (Int.tmod (wrap64 (a0_5)) 120)) = some (r1, r2, r3, r4) := yy hy116 H
            have Ny116 := Aside0.mk hy116
            clear hy116
            have H' := Aside0.mk H
            clear H
            have hnb52 := NB101_102.out
            have hnc52 := NB102_101.out
            have hnb53 := NB101_103.out
            have hnc53 := NB103_101.out
            obtain ⟨_, _, _, _, _, _, _, _, _, _, _, _, _, _⟩ := cf7 BK101
            try go_wp2
            replace HO_104000 := Aside0.mk (Kd.R_drew HO_104000.out)
            replace HO_104001 := Aside0.mk (Kd.R_drew HO_104001.out)
            replace BK101 := Aside0.mk (blk_drew BK101.out)
            replace BK102 := Aside0.mk (blk_drew BK102.out)
            replace BK103 := Aside0.mk (blk_drew BK103.out)
            replace HB := Aside0.mk (below_drew1 HB.out)
            refine start_ (n := 13) (S := fun w' => w'.cell? ⟨gb103, 0, none⟩ = some (u104000) ∧ w'.cell? ⟨gb103, 1, none⟩ = some (u104001) ∧ w'.cell? ⟨gb103, 2, none⟩ = some (.int .i64 (Int.tmod (wrap64 (a0_4)) 30)) ∧ w'.cell? ⟨gb103, 3, none⟩ = some (.int .i64 (Int.tmod (wrap64 (a0_5)) 120)) ∧ w'.cell? ⟨gb101, 0, none⟩ = some (.slice A0_0 l0_0.length c0_0) ∧ w'.cell? ⟨gb101, 1, none⟩ = some (.int .u8 a0_1) ∧ w'.cell? ⟨gb101, 2, none⟩ = some (.int .u8 a0_2) ∧ w'.cell? ⟨gb101, 3, none⟩ = some (.int .u8 a0_3) ∧ w'.cell? ⟨gb101, 4, none⟩ = some (.int .u8 a0_4) ∧ w'.cell? ⟨gb101, 5, none⟩ = some (.int .u8 a0_5) ∧ w'.cell? ⟨gb101, 6, none⟩ = some (.slice A0_6 l0_6.length c0_6)) (ds := [12]) #[false, false, false, false, false, false, false, false, false, false, false, false, false] (by kernel_rfl) rfl rfl ⟨(blk_cell BK103.out 0).trans rfl, (blk_cell BK103.out 1).trans rfl, (blk_cell BK103.out 2).trans rfl, (blk_cell BK103.out 3).trans rfl, (blk_cell BK101.out 0).trans rfl, (blk_cell BK101.out 1).trans rfl, (blk_cell BK101.out 2).trans rfl, (blk_cell BK101.out 3).trans rfl, (blk_cell BK101.out 4).trans rfl, (blk_cell BK101.out 5).trans rfl, (blk_cell BK101.out 6).trans rfl⟩ (fun hHeld => ?_); refine with_tabW walkmilllaw05_Green_field.tab11 walkmilllaw05_Green_field.bits11 (fun HT_ HW_ => ?_)
            generalize wr.drew = w55 at HO_104000 HO_104001 BK101 BK102 BK103 HB hHeld ⊢
            refine pu 0 75 ?_
            refine pu 2 77 ?_
            refine pu 3 78 ?_
            refine pure_ (i := 4) (N := some 79) (v := ?_) (a' := ?_) #[true, false, true, true, true, false, false, false, false, false, false, false, false] rfl rfl (any_of HT_.out (by kernel_rfl)) (fun _ _ _ h => h) (Or.inl ⟨by rfl, ?_⟩) ?_ ?_
            rotate_left
            ·intro w'
             go_simp
             refine Eq.trans (b := Result.ok (Next.value (Value.pointer (some ⟨gb101, 2, none⟩))) w') ?_ ?_
             ·rw [CXc50.out]; exact if_pos (by decide)
             ·with_reducible rfl
            rotate_left
            ·simp only [Act.put, List.setIfInBounds_toArray, List.set_cons_zero, List.set_cons_succ, i64_w, i32_w]
             rfl
            refine tk 1 76 hHeld ?_
            refine tk 5 80 hHeld ?_
            refine pu 6 81 ?_
            refine pu 7 82 ?_
            refine pu 8 83 ?_
            refine on 9 (fun K hK => ?_)
            refine value_ (w1 := ?_) (v := ?_) (by rfl) rfl ?_ ?_
            rotate_left 2
            ·go_simp
             constructor
             ·rfl
             ·rfl
            refine hK.out _ _ ⟨(blk_cell (blk_alloc BK103.out _) 0).trans rfl, (blk_cell (blk_alloc BK103.out _) 1).trans rfl, (blk_cell (blk_alloc BK103.out _) 2).trans rfl, (blk_cell (blk_alloc BK103.out _) 3).trans rfl, (blk_cell (blk_alloc BK101.out _) 0).trans rfl, (blk_cell (blk_alloc BK101.out _) 1).trans rfl, (blk_cell (blk_alloc BK101.out _) 2).trans rfl, (blk_cell (blk_alloc BK101.out _) 3).trans rfl, (blk_cell (blk_alloc BK101.out _) 4).trans rfl, (blk_cell (blk_alloc BK101.out _) 5).trans rfl, (blk_cell (blk_alloc BK101.out _) 6).trans rfl⟩ (fun hHeld => ?_)
            clear hK K
            refine norm_ (a' := ?_) ?_ ?_
            rotate_left
            ·show Act.put _ (some 84) _ = _
             simp only [Act.put, List.setIfInBounds_toArray, List.set_cons_zero, List.set_cons_succ, i64_w, i32_w]
             rfl
            refine on 10 (fun K hK => ?_)
            refine Kd.R_append_step (Kd.int .i64) (w0 := w) w.heap.size (by rfl) (.tmp 76) (.tmp 84) 30 3 (.int .i64 0) 8 rfl Tryd.underlying30 info3 rfl (by decide) (by omega) u104001 x104001_3 (wrap64 (60 + (wrap64 (5 * (wrap64 (a0_2)))))) [.int .i64 (wrap64 (60 + (wrap64 (5 * (wrap64 (a0_2))))))] (fun _ => True) (fun _ => False) rfl rfl ?aP (fun _ hk => hk.elim) ?aF ?aO ?aB ?aS ?aL ?_
            (case aP => exact rfl)
            (case aB => exact (pE HB))
            (case aF => exact (fun _ _ => trivial))
            (case aO => exact (pR HO_104001.out))
            (case aS => exact (below_size (pE HB)))
            (case aL => have := LMc51.out; omega)
            intro v117 w56 ho hb hg hat
            rw [← Ny116.out] at ho
            replace HO_104000 := Aside0.mk (Kd.R_over' (pR HO_104000.out) (Kd.R_typed (pR HO_104001.out)) (by decide) hg)
            replace BK101 := Aside0.mk (blk_grown (g := gb101) (o := .cells #[.slice A0_0 l0_0.length c0_0, .int .u8 a0_1, .int .u8 a0_2, .int .u8 a0_3, .int .u8 a0_4, .int .u8 a0_5, .slice A0_6 l0_6.length c0_6] 26 (0, 0)) (pB BK101.out) hg (Kd.R_ne HO_104001.out BK101.out (by decide)))
            replace BK102 := Aside0.mk (blk_grown (g := gb102) (o := .cells #[.slice none 0 0, .slice none 0 0, .int .i64 0, .int .i64 0] 32 (0, 0)) (pB BK102.out) hg (Kd.R_ne HO_104001.out BK102.out (by decide)))
            replace BK103 := Aside0.mk (blk_grown (g := gb103) (o := .cells #[u104000, u104001, .int .i64 (Int.tmod (wrap64 (a0_4)) 30), .int .i64 (Int.tmod (wrap64 (a0_5)) 120)] 32 (0, 0)) (pB BK103.out) hg (Kd.R_ne HO_104001.out BK103.out (by decide)))
            replace HB := Aside0.mk (hb)
            have HO118 := Aside0.mk (ho)
            clear HO_104001 ho hb hg hat
            obtain ⟨Ao57, co57, eo57⟩ := Kd.R_slice HO118.out
            (first | subst eo57 | (injection eo57 with f1_ f2_ f3_; have f4_ := f1_.symm; have f5_ := f3_.symm; clear f1_ f2_ f3_; subst f4_; subst f5_))
            refine hK.out _ _ ⟨(blk_cell BK103.out 0).trans rfl, (blk_cell BK103.out 1).trans rfl, (blk_cell BK103.out 2).trans rfl, (blk_cell BK103.out 3).trans rfl, (blk_cell BK101.out 0).trans rfl, (blk_cell BK101.out 1).trans rfl, (blk_cell BK101.out 2).trans rfl, (blk_cell BK101.out 3).trans rfl, (blk_cell BK101.out 4).trans rfl, (blk_cell BK101.out 5).trans rfl, (blk_cell BK101.out 6).trans rfl⟩ (fun hHeld => ?_)
            clear hK K
            refine norm_ (a' := ?_) ?_ ?_
            rotate_left
            ·show Act.put _ (some 85) _ = _
             simp only [Act.put, List.setIfInBounds_toArray, List.set_cons_zero, List.set_cons_succ, i64_w, i32_w]
             rfl
            refine pu 11 86 ?_
            refine last_ (i := 12) (N := none) #[true, true, true, true, true, true, true, true, true, true, true, true, true] rfl rfl (one_of HT_.out (by kernel_rfl)) (by decide) (fun K hK => ?_)
            have hs58 : w56.cell? ⟨gb103, 1, none⟩ = some (u104001) := (blk_cell BK103.out 1).trans rfl
            have hfs58 := blk_frozen BK103.out 1
            have hns58_0 := NB101_103.out
            have hns58_1 := NB102_103.out
            have hms58_0 := NB103_101.out
            have hms58_1 := NB103_102.out
            refine skip_ (w1 := ?_) (by rfl) rfl ?_ ?_
            rotate_left
            ·go_simp
             rfl
            refine hK.out _ _ ?_
            clear hK K
            refine done_ (done_of HT_.out (by kernel_rfl)) ?_
            try go_wp2
            go_roundg k3
            case measure => have := HK1.out; have := HJ9.out; have := HK3.out; omega
            case rel => exact ⟨(wrap64 (x8_3 + 1)), (y116), (.slice Ao57 y116.length co57), (by first | rfl | (simp; done) | (simp [*]; done)), H', ⟨by have := HK1.out; have := HJ9.out; have := HK3.out; omega⟩, ⟨by (with_reducible repeat (first | apply Kd.R_alloc | apply Kd.R_drewN | apply Kd.R_drew)); exact Kd.R_mono (Kd.R_far (p := ⟨gb103, 1, none⟩) (Kd.R_types HO_104000.out BK103.out (by decide)) (fun _ hk => hk.2) (.slice Ao57 y116.length co57)) (fun _ hk => trivial)⟩, ⟨by (with_reducible repeat (first | apply Kd.R_alloc | apply Kd.R_drewN | apply Kd.R_drew)); exact Kd.R_mono (Kd.R_far (p := ⟨gb103, 1, none⟩) (Kd.R_types HO118.out BK103.out (by decide)) (fun _ hk => hk.2) (.slice Ao57 y116.length co57)) (fun _ hk => trivial)⟩, ⟨by refine pB ?_; refine blk_far ?_ NB101_103.out _; (with_reducible repeat (first | refine blk_drewN ?_ _ | refine blk_drew ?_ | refine blk_alloc ?_ _)); exact BK101.out⟩, ⟨by refine pB ?_; refine blk_far ?_ NB102_103.out _; (with_reducible repeat (first | refine blk_drewN ?_ _ | refine blk_drew ?_ | refine blk_alloc ?_ _)); exact BK102.out⟩, ⟨by refine pB ?_; refine blk_put (cs := #[u104000, u104001, .int .i64 (Int.tmod (wrap64 (a0_4)) 30), .int .i64 (Int.tmod (wrap64 (a0_5)) 120)]) ?_ 1 _ rfl; (with_reducible repeat (first | refine blk_drewN ?_ _ | refine blk_drew ?_ | refine blk_alloc ?_ _)); exact BK103.out⟩, ⟨pE HB⟩⟩
           ·rw [if_neg c51] at H
            exact absurd H (by simp)
          ·rw [if_neg c50] at H
           have c50b0 : (x8_3 == 1) = false := beq_eq_false_iff_ne.mpr c50
           have c50b1 : (x8_3 != 1) = true := bne_iff_ne.mpr c50
           by_cases c59 : x8_3 = 2
           ·rw [if_pos c59] at H
            have c59b0 : (x8_3 == 2) = true := beq_iff_eq.mpr c59
            have c59b1 : (x8_3 != 2) = false := bne_eq_false_iff_eq.mpr c59
            have CXc59 := Aside0.mk c59
            clear c59
            by_cases c60 : x104001_3.length < 17592186044416
            ·rw [if_pos c60] at H
             have LMc60 := Aside0.mk c60
             clear c60
             obtain ⟨y119, hy119⟩ : ∃ y_ : List Int, y_ = (x104001_3 ++ [wrap64 (60 + (wrap64 (5 * (wrap64 (a0_3)))))]) := ⟨_, rfl⟩
             replace H : (walkmilllaw05_Green_field.l1 k3 (wrap64 (x8_3 + 1)) l0_0 a0_1 a0_2 a0_3 a0_4 a0_5 l0_6 x104000_1 y119 (Int.tmod (wrap64 (a0_4)) 30) (Int.tmod (wrap64 (a0_5)) 120)) = some (r1, r2, r3, r4) := yy hy119 H
             have Ny119 := Aside0.mk hy119
             clear hy119
             have H' := Aside0.mk H
             clear H
             have hnb61 := NB101_102.out
             have hnc61 := NB102_101.out
             have hnb62 := NB101_103.out
             have hnc62 := NB103_101.out
             obtain ⟨_, _, _, _, _, _, _, _, _, _, _, _, _, _⟩ := cf7 BK101
             try go_wp2
             replace HO_104000 := Aside0.mk (Kd.R_drew HO_104000.out)
             replace HO_104001 := Aside0.mk (Kd.R_drew HO_104001.out)
             replace BK101 := Aside0.mk (blk_drew BK101.out)
             replace BK102 := Aside0.mk (blk_drew BK102.out)
             replace BK103 := Aside0.mk (blk_drew BK103.out)
             replace HB := Aside0.mk (below_drew1 HB.out)
             refine start_ (n := 13) (S := fun w' => w'.cell? ⟨gb103, 0, none⟩ = some (u104000) ∧ w'.cell? ⟨gb103, 1, none⟩ = some (u104001) ∧ w'.cell? ⟨gb103, 2, none⟩ = some (.int .i64 (Int.tmod (wrap64 (a0_4)) 30)) ∧ w'.cell? ⟨gb103, 3, none⟩ = some (.int .i64 (Int.tmod (wrap64 (a0_5)) 120)) ∧ w'.cell? ⟨gb101, 0, none⟩ = some (.slice A0_0 l0_0.length c0_0) ∧ w'.cell? ⟨gb101, 1, none⟩ = some (.int .u8 a0_1) ∧ w'.cell? ⟨gb101, 2, none⟩ = some (.int .u8 a0_2) ∧ w'.cell? ⟨gb101, 3, none⟩ = some (.int .u8 a0_3) ∧ w'.cell? ⟨gb101, 4, none⟩ = some (.int .u8 a0_4) ∧ w'.cell? ⟨gb101, 5, none⟩ = some (.int .u8 a0_5) ∧ w'.cell? ⟨gb101, 6, none⟩ = some (.slice A0_6 l0_6.length c0_6)) (ds := [12]) #[false, false, false, false, false, false, false, false, false, false, false, false, false] (by kernel_rfl) rfl rfl ⟨(blk_cell BK103.out 0).trans rfl, (blk_cell BK103.out 1).trans rfl, (blk_cell BK103.out 2).trans rfl, (blk_cell BK103.out 3).trans rfl, (blk_cell BK101.out 0).trans rfl, (blk_cell BK101.out 1).trans rfl, (blk_cell BK101.out 2).trans rfl, (blk_cell BK101.out 3).trans rfl, (blk_cell BK101.out 4).trans rfl, (blk_cell BK101.out 5).trans rfl, (blk_cell BK101.out 6).trans rfl⟩ (fun hHeld => ?_); refine with_tabW walkmilllaw05_Green_field.tab11 walkmilllaw05_Green_field.bits11 (fun HT_ HW_ => ?_)
             generalize wr.drew = w64 at HO_104000 HO_104001 BK101 BK102 BK103 HB hHeld ⊢
             refine pu 0 75 ?_
             refine pu 2 77 ?_
             refine pu 3 78 ?_
             refine pure_ (i := 4) (N := some 79) (v := ?_) (a' := ?_) #[true, false, true, true, true, false, false, false, false, false, false, false, false] rfl rfl (any_of HT_.out (by kernel_rfl)) (fun _ _ _ h => h) (Or.inl ⟨by rfl, ?_⟩) ?_ ?_
             rotate_left
             ·intro w'
              go_simp
              refine Eq.trans (b := Result.ok (Next.value (Value.pointer (some ⟨gb101, 3, none⟩))) w') ?_ ?_
              ·rw [CXc59.out]; exact if_pos (by decide)
              ·with_reducible rfl
             rotate_left
             ·simp only [Act.put, List.setIfInBounds_toArray, List.set_cons_zero, List.set_cons_succ, i64_w, i32_w]
              rfl
             refine tk 1 76 hHeld ?_
             refine tk 5 80 hHeld ?_
             refine pu 6 81 ?_
             refine pu 7 82 ?_
             refine pu 8 83 ?_
             refine on 9 (fun K hK => ?_)
             refine value_ (w1 := ?_) (v := ?_) (by rfl) rfl ?_ ?_
             rotate_left 2
             ·go_simp
              constructor
              ·rfl
              ·rfl
             refine hK.out _ _ ⟨(blk_cell (blk_alloc BK103.out _) 0).trans rfl, (blk_cell (blk_alloc BK103.out _) 1).trans rfl, (blk_cell (blk_alloc BK103.out _) 2).trans rfl, (blk_cell (blk_alloc BK103.out _) 3).trans rfl, (blk_cell (blk_alloc BK101.out _) 0).trans rfl, (blk_cell (blk_alloc BK101.out _) 1).trans rfl, (blk_cell (blk_alloc BK101.out _) 2).trans rfl, (blk_cell (blk_alloc BK101.out _) 3).trans rfl, (blk_cell (blk_alloc BK101.out _) 4).trans rfl, (blk_cell (blk_alloc BK101.out _) 5).trans rfl, (blk_cell (blk_alloc BK101.out _) 6).trans rfl⟩ (fun hHeld => ?_)
             clear hK K
             refine norm_ (a' := ?_) ?_ ?_
             rotate_left
             ·show Act.put _ (some 84) _ = _
              simp only [Act.put, List.setIfInBounds_toArray, List.set_cons_zero, List.set_cons_succ, i64_w, i32_w]
              rfl
             refine on 10 (fun K hK => ?_)
             refine Kd.R_append_step (Kd.int .i64) (w0 := w) w.heap.size (by rfl) (.tmp 76) (.tmp 84) 30 3 (.int .i64 0) 8 rfl Tryd.underlying30 info3 rfl (by decide) (by omega) u104001 x104001_3 (wrap64 (60 + (wrap64 (5 * (wrap64 (a0_3)))))) [.int .i64 (wrap64 (60 + (wrap64 (5 * (wrap64 (a0_3))))))] (fun _ => True) (fun _ => False) rfl rfl ?aP (fun _ hk => hk.elim) ?aF ?aO ?aB ?aS ?aL ?_
             (case aP => exact rfl)
             (case aB => exact (pE HB))
             (case aF => exact (fun _ _ => trivial))
             (case aO => exact (pR HO_104001.out))
             (case aS => exact (below_size (pE HB)))
             (case aL => have := LMc60.out; omega)
             intro v120 w65 ho hb hg hat
             rw [← Ny119.out] at ho
             replace HO_104000 := Aside0.mk (Kd.R_over' (pR HO_104000.out) (Kd.R_typed (pR HO_104001.out)) (by decide) hg)
             replace BK101 := Aside0.mk (blk_grown (g := gb101) (o := .cells #[.slice A0_0 l0_0.length c0_0, .int .u8 a0_1, .int .u8 a0_2, .int .u8 a0_3, .int .u8 a0_4, .int .u8 a0_5, .slice A0_6 l0_6.length c0_6] 26 (0, 0)) (pB BK101.out) hg (Kd.R_ne HO_104001.out BK101.out (by decide)))
             replace BK102 := Aside0.mk (blk_grown (g := gb102) (o := .cells #[.slice none 0 0, .slice none 0 0, .int .i64 0, .int .i64 0] 32 (0, 0)) (pB BK102.out) hg (Kd.R_ne HO_104001.out BK102.out (by decide)))
             replace BK103 := Aside0.mk (blk_grown (g := gb103) (o := .cells #[u104000, u104001, .int .i64 (Int.tmod (wrap64 (a0_4)) 30), .int .i64 (Int.tmod (wrap64 (a0_5)) 120)] 32 (0, 0)) (pB BK103.out) hg (Kd.R_ne HO_104001.out BK103.out (by decide)))
             replace HB := Aside0.mk (hb)
             have HO121 := Aside0.mk (ho)
             clear HO_104001 ho hb hg hat
             obtain ⟨Ao66, co66, eo66⟩ := Kd.R_slice HO121.out
             (first | subst eo66 | (injection eo66 with f1_ f2_ f3_; have f4_ := f1_.symm; have f5_ := f3_.symm; clear f1_ f2_ f3_; subst f4_; subst f5_))
             refine hK.out _ _ ⟨(blk_cell BK103.out 0).trans rfl, (blk_cell BK103.out 1).trans rfl, (blk_cell BK103.out 2).trans rfl, (blk_cell BK103.out 3).trans rfl, (blk_cell BK101.out 0).trans rfl, (blk_cell BK101.out 1).trans rfl, (blk_cell BK101.out 2).trans rfl, (blk_cell BK101.out 3).trans rfl, (blk_cell BK101.out 4).trans rfl, (blk_cell BK101.out 5).trans rfl, (blk_cell BK101.out 6).trans rfl⟩ (fun hHeld => ?_)
             clear hK K
             refine norm_ (a' := ?_) ?_ ?_
             rotate_left
             ·show Act.put _ (some 85) _ = _
              simp only [Act.put, List.setIfInBounds_toArray, List.set_cons_zero, List.set_cons_succ, i64_w, i32_w]
              rfl
             refine pu 11 86 ?_
             refine last_ (i := 12) (N := none) #[true, true, true, true, true, true, true, true, true, true, true, true, true] rfl rfl (one_of HT_.out (by kernel_rfl)) (by decide) (fun K hK => ?_)
             have hs67 : w65.cell? ⟨gb103, 1, none⟩ = some (u104001) := (blk_cell BK103.out 1).trans rfl
             have hfs67 := blk_frozen BK103.out 1
             have hns67_0 := NB101_103.out
             have hns67_1 := NB102_103.out
             have hms67_0 := NB103_101.out
             have hms67_1 := NB103_102.out
             refine skip_ (w1 := ?_) (by rfl) rfl ?_ ?_
             rotate_left
             ·go_simp
              rfl
             refine hK.out _ _ ?_
             clear hK K
             refine done_ (done_of HT_.out (by kernel_rfl)) ?_
             try go_wp2
             go_roundg k3
             case measure => have := HK1.out; have := HJ9.out; have := HK3.out; omega
             case rel => exact ⟨(wrap64 (x8_3 + 1)), (y119), (.slice Ao66 y119.length co66), (by first | rfl | (simp; done) | (simp [*]; done)), H', ⟨by have := HK1.out; have := HJ9.out; have := HK3.out; omega⟩, ⟨by (with_reducible repeat (first | apply Kd.R_alloc | apply Kd.R_drewN | apply Kd.R_drew)); exact Kd.R_mono (Kd.R_far (p := ⟨gb103, 1, none⟩) (Kd.R_types HO_104000.out BK103.out (by decide)) (fun _ hk => hk.2) (.slice Ao66 y119.length co66)) (fun _ hk => trivial)⟩, ⟨by (with_reducible repeat (first | apply Kd.R_alloc | apply Kd.R_drewN | apply Kd.R_drew)); exact Kd.R_mono (Kd.R_far (p := ⟨gb103, 1, none⟩) (Kd.R_types HO121.out BK103.out (by decide)) (fun _ hk => hk.2) (.slice Ao66 y119.length co66)) (fun _ hk => trivial)⟩, ⟨by refine pB ?_; refine blk_far ?_ NB101_103.out _; (with_reducible repeat (first | refine blk_drewN ?_ _ | refine blk_drew ?_ | refine blk_alloc ?_ _)); exact BK101.out⟩, ⟨by refine pB ?_; refine blk_far ?_ NB102_103.out _; (with_reducible repeat (first | refine blk_drewN ?_ _ | refine blk_drew ?_ | refine blk_alloc ?_ _)); exact BK102.out⟩, ⟨by refine pB ?_; refine blk_put (cs := #[u104000, u104001, .int .i64 (Int.tmod (wrap64 (a0_4)) 30), .int .i64 (Int.tmod (wrap64 (a0_5)) 120)]) ?_ 1 _ rfl; (with_reducible repeat (first | refine blk_drewN ?_ _ | refine blk_drew ?_ | refine blk_alloc ?_ _)); exact BK103.out⟩, ⟨pE HB⟩⟩
            ·rw [if_neg c60] at H
             exact absurd H (by simp)
           ·rw [if_neg c59] at H
            exact absurd H (by simp)
        ·rw [if_neg c40] at H
         have c40b0 : decide (x8_3 < (wrap64 (1 + (Int.tmod (wrap64 (Int.tdiv (wrap64 (a0_4)) 32)) 3)))) = false := decide_eq_false c40
         clear c40
         simp only [Option.some.injEq, Prod.mk.injEq] at H
         obtain ⟨rfl, rfl, rfl, rfl⟩ := H
         have hnb68 := NB101_102.out
         have hnc68 := NB102_101.out
         have hnb69 := NB101_103.out
         have hnc69 := NB103_101.out
         obtain ⟨_, _, _, _, _, _, _, _, _, _, _, _, _, _⟩ := cf7 BK101
         have hnb71 := NB103_102.out
         have hnc71 := NB102_103.out
         have hcz72_0 := cz0 BK103
         have hcz72_1 := cz1 BK103
         have hcz72_2 : wr.cell? ⟨gb103, 2, none⟩ = some (.int .i64 (Int.tmod (wrap64 (a0_4)) 30)) := (blk_cell BK103.out 2).trans rfl
         have hcz72_3 : wr.cell? ⟨gb103, 3, none⟩ = some (.int .i64 (Int.tmod (wrap64 (a0_5)) 120)) := (blk_cell BK103.out 3).trans rfl
         have hfz72_0 := blk_frozen BK103.out 0
         have hfz72_1 := blk_frozen BK103.out 1
         have hfz72_2 := blk_frozen BK103.out 2
         have hfz72_3 := blk_frozen BK103.out 3
         obtain ⟨Ao73, co73, eo73⟩ := Kd.R_slice HO_104000.out
         subst eo73
         obtain ⟨_, _, _, _, _, _, _, _⟩ := cf4 BK102
         obtain ⟨Ao75, co75, eo75⟩ := Kd.R_slice HO_104001.out
         subst eo75
         go_wp2
         refine bodyPost_ret (results_cell_row rfl _ _ gb102 32 #[.slice Ao73 x104000_1.length co73, .slice Ao75 x104001_3.length co75, .int .i64 (Int.tmod (wrap64 (a0_4)) 30), .int .i64 (Int.tmod (wrap64 (a0_5)) 120)] (0, 0) _ rfl (by refine pB ?_; refine blk_put (cs := #[.slice Ao73 x104000_1.length co73, .slice Ao75 x104001_3.length co75, .int .i64 (Int.tmod (wrap64 (a0_4)) 30), .int .i64 0]) ?_ 3 _ rfl; refine pB ?_; refine blk_put (cs := #[.slice Ao73 x104000_1.length co73, .slice Ao75 x104001_3.length co75, .int .i64 0, .int .i64 0]) ?_ 2 _ rfl; refine pB ?_; refine blk_put (cs := #[.slice Ao73 x104000_1.length co73, .slice none 0 0, .int .i64 0, .int .i64 0]) ?_ 1 _ rfl; refine pB ?_; refine blk_put (cs := #[.slice none 0 0, .slice none 0 0, .int .i64 0, .int .i64 0]) ?_ 0 _ rfl; (with_reducible repeat (first | refine blk_drewN ?_ _ | refine blk_drew ?_ | refine blk_alloc ?_ _)); exact BK102.out) Tryd.underlying32 rfl (by kernel_rfl)) rfl ?_
         exact ⟨_, _, eT, by (with_reducible repeat (first | apply Kd.R_alloc | apply Kd.R_drewN | apply Kd.R_drew)); exact Kd.R_mono (Kd.R_far (p := ⟨gb102, 3, none⟩) (Kd.R_far (p := ⟨gb102, 2, none⟩) (Kd.R_far (p := ⟨gb102, 1, none⟩) (Kd.R_far (p := ⟨gb102, 0, none⟩) (Kd.R_types HO_104000.out BK102.out (by decide)) (fun _ hk => hk.2) (.slice Ao73 x104000_1.length co73)) (fun _ hk => hk.2) (.slice Ao75 x104001_3.length co75)) (fun _ hk => hk.2) (.int .i64 (Int.tmod (wrap64 (a0_4)) 30))) (fun _ hk => hk.2) (.int .i64 (Int.tmod (wrap64 (a0_5)) 120))) (fun _ hk => trivial), by (with_reducible repeat (first | apply Kd.R_alloc | apply Kd.R_drewN | apply Kd.R_drew)); exact Kd.R_mono (Kd.R_far (p := ⟨gb102, 3, none⟩) (Kd.R_far (p := ⟨gb102, 2, none⟩) (Kd.R_far (p := ⟨gb102, 1, none⟩) (Kd.R_far (p := ⟨gb102, 0, none⟩) (Kd.R_types HO_104001.out BK102.out (by decide)) (fun _ hk => hk.2) (.slice Ao73 x104000_1.length co73)) (fun _ hk => hk.2) (.slice Ao75 x104001_3.length co75)) (fun _ hk => hk.2) (.int .i64 (Int.tmod (wrap64 (a0_4)) 30))) (fun _ hk => hk.2) (.int .i64 (Int.tmod (wrap64 (a0_5)) 120))) (fun _ hk => trivial), pE HB⟩
mutual
def walkmilllaw05_Green_weather.l0 : Nat → List (S40) → Int → List (S71) → Int → Int → Int → Int → Int → List (S65) → Option ((List (S40)))
 | 0, _, _, _, _, _, _, _, _, _ => none
 | k + 1, x3, x4, x102000, x102001, x102002, x102003, x102004, x102005, x102006 => if x4 = 0 then (walkmilllaw05_Green_weather.j1 k x3 x4 true x102000 x102001 x102002 x102003 x102004 x102005 x102006) else (if x4 < (x102006.length : Int) then (walkmilllaw05_Green_weather.j1 k x3 x4 (decide (x4 < 12)) x102000 x102001 x102002 x102003 x102004 x102005 x102006) else (walkmilllaw05_Green_weather.j1 k x3 x4 false x102000 x102001 x102002 x102003 x102004 x102005 x102006))
def walkmilllaw05_Green_weather.j1 : Nat → List (S40) → Int → Bool → List (S71) → Int → Int → Int → Int → Int → List (S65) → Option ((List (S40)))
 | 0, _, _, _, _, _, _, _, _, _, _ => none
 | k + 1, x3, x4, x20, x102000, x102001, x102002, x102003, x102004, x102005, x102006 => if x20 = true then (if x4 < (x102006.length : Int) then (if 0 ≤ x4 then ((walkmilllaw05_span.f (Int.tmod (wrap64 ((rd_T65 x102006 x4).f0)) 60) (wrap64 ((Int.tmod (wrap64 ((rd_T65 x102006 x4).f0)) 60) + (Int.tmod (wrap64 ((rd_T65 x102006 x4).f1)) 30)))).bind fun bt107 => (if x3.length < 8796093022208 then (walkmilllaw05_Green_weather.l0 k (x3 ++ [(⟨bt107.1, bt107.2⟩ : S40)]) (wrap64 (x4 + 1)) x102000 x102001 x102002 x102003 x102004 x102005 x102006) else (none))) else (none)) else ((walkmilllaw05_span.f 20 25).bind fun bt112 => (if x3.length < 8796093022208 then (walkmilllaw05_Green_weather.l0 k (x3 ++ [(⟨bt112.1, bt112.2⟩ : S40)]) (wrap64 (x4 + 1)) x102000 x102001 x102002 x102003 x102004 x102005 x102006) else (none)))) else (some x3)
end
def walkmilllaw05_Green_weather.f (k : Nat) (l0_0 : List (S71)) (a0_1 : Int) (a0_2 : Int) (a0_3 : Int) (a0_4 : Int) (a0_5 : Int) (l0_6 : List (S65)) : Option ((List (S40))) := walkmilllaw05_Green_weather.l0 k (([] : List (S40))) 0 l0_0 a0_1 a0_2 a0_3 a0_4 a0_5 l0_6
theorem walkmilllaw05_Green_weather.mono_l : ∀ k, (∀ y0 y1 y2 y3 y4 y5 y6 y7 y8, LeO (walkmilllaw05_Green_weather.l0 k y0 y1 y2 y3 y4 y5 y6 y7 y8) (walkmilllaw05_Green_weather.l0 (k + 1) y0 y1 y2 y3 y4 y5 y6 y7 y8)) ∧ (∀ y0 y1 y2 y3 y4 y5 y6 y7 y8 y9, LeO (walkmilllaw05_Green_weather.j1 k y0 y1 y2 y3 y4 y5 y6 y7 y8 y9) (walkmilllaw05_Green_weather.j1 (k + 1) y0 y1 y2 y3 y4 y5 y6 y7 y8 y9))
 | 0 => ⟨fun _ _ _ _ _ _ _ _ _ r h => by simp [walkmilllaw05_Green_weather.l0] at h, fun _ _ _ _ _ _ _ _ _ _ r h => by simp [walkmilllaw05_Green_weather.j1] at h⟩
 | k + 1 => by
  obtain ⟨ih0, ih1⟩ := walkmilllaw05_Green_weather.mono_l k
  refine ⟨?_, ?_⟩
  ·intro y0 y1 y2 y3 y4 y5 y6 y7 y8
   unfold walkmilllaw05_Green_weather.l0
   repeat' first
   | (with_reducible exact ih0 _ _ _ _ _ _ _ _ _)
   | (with_reducible exact ih1 _ _ _ _ _ _ _ _ _ _)
   | (with_reducible exact LeO.refl _)
   | (with_reducible exact LeO.none _)
   | (with_reducible refine LeO.ite ?_ ?_)
   | (with_reducible refine LeO.bind ?_ (fun _ => ?_))
   | exact ih0 _ _ _ _ _ _ _ _ _
   | exact ih1 _ _ _ _ _ _ _ _ _ _
   | exact LeO.none _
   | refine LeO.ite ?_ ?_
   | refine LeO.bind ?_ (fun _ => ?_)
  ·intro y0 y1 y2 y3 y4 y5 y6 y7 y8 y9
   unfold walkmilllaw05_Green_weather.j1
   repeat' first
   | (with_reducible exact ih0 _ _ _ _ _ _ _ _ _)
   | (with_reducible exact ih1 _ _ _ _ _ _ _ _ _ _)
   | (with_reducible exact LeO.refl _)
   | (with_reducible exact LeO.none _)
   | (with_reducible refine LeO.ite ?_ ?_)
   | (with_reducible refine LeO.bind ?_ (fun _ => ?_))
   | exact ih0 _ _ _ _ _ _ _ _ _
   | exact ih1 _ _ _ _ _ _ _ _ _ _
   | exact LeO.none _
   | refine LeO.ite ?_ ?_
   | refine LeO.bind ?_ (fun _ => ?_)
theorem walkmilllaw05_Green_weather.mono : ∀ a0 a1 a2 a3 a4 a5 a6 k, LeO (walkmilllaw05_Green_weather.f k a0 a1 a2 a3 a4 a5 a6) (walkmilllaw05_Green_weather.f (k + 1) a0 a1 a2 a3 a4 a5 a6) := by
 intro a0 a1 a2 a3 a4 a5 a6 k
 obtain ⟨ih0, ih1⟩ := walkmilllaw05_Green_weather.mono_l k
 unfold walkmilllaw05_Green_weather.f
 repeat' first
   | (with_reducible exact ih0 _ _ _ _ _ _ _ _ _)
   | (with_reducible exact ih1 _ _ _ _ _ _ _ _ _ _)
   | (with_reducible exact LeO.refl _)
   | (with_reducible exact LeO.none _)
   | (with_reducible refine LeO.ite ?_ ?_)
   | (with_reducible refine LeO.bind ?_ (fun _ => ?_))
   | exact ih0 _ _ _ _ _ _ _ _ _
   | exact ih1 _ _ _ _ _ _ _ _ _ _
   | exact LeO.none _
   | refine LeO.ite ?_ ?_
   | refine LeO.bind ?_ (fun _ => ?_)
set_option maxHeartbeats 8000000 in
set_option maxRecDepth 100000 in
theorem walkmilllaw05_Green_weather.calls (k : Nat) (A0_0 : Option Addr) (c0_0 : Nat) (l0_0 : List (S71)) (a0_1 : Int) (a0_2 : Int) (a0_3 : Int) (a0_4 : Int) (a0_5 : Int) (A0_6 : Option Addr) (c0_6 : Nat) (l0_6 : List (S65)) (r : List (S40)) (w : World) (hr0_0 : Kd.C k71 w A0_0 l0_0.length l0_0) (hc0_0 : l0_0.length ≤ c0_0) (hr0_6 : Kd.C k65 w A0_6 l0_6.length l0_6) (hc0_6 : l0_6.length ≤ c0_6) (h : walkmilllaw05_Green_weather.f k l0_0 a0_1 a0_2 a0_3 a0_4 a0_5 l0_6 = some r) :
  Calls Tryd.prog 22 #[.agg #[.slice A0_0 l0_0.length c0_0, .int .u8 a0_1, .int .u8 a0_2, .int .u8 a0_3, .int .u8 a0_4, .int .u8 a0_5, .slice A0_6 l0_6.length c0_6]] w fun e w' => ∃ v0_ : Value, e = .returned (v0_) ∧ Kd.R k40 40 w' w.heap.size (fun _ => True) v0_ r ∧ Below w.heap.size w w' := by
 have hff0 : Int.tmod (20 : Int) 60 = 20 := by first | (unfold wrap64; omega) | decide | kernel_rfl
 have hff1 : Int.tmod (5 : Int) 30 = 5 := by first | (unfold wrap64; omega) | decide | kernel_rfl
 have hff2 : IntKind.i64.wrap (20 : Int) = 20 := by first | (unfold wrap64; omega) | decide | kernel_rfl
 have hff3 : IntKind.i64.wrap (25 : Int) = 25 := by first | (unfold wrap64; omega) | decide | kernel_rfl
 have hff4 : IntKind.i64.wrap (5 : Int) = 5 := by first | (unfold wrap64; omega) | decide | kernel_rfl
 have hff5 : wrap64 (20 : Int) = 20 := by first | (unfold wrap64; omega) | decide | kernel_rfl
 have hff6 : wrap64 (25 : Int) = 25 := by first | (unfold wrap64; omega) | decide | kernel_rfl
 have hff7 : wrap64 (5 : Int) = 5 := by first | (unfold wrap64; omega) | decide | kernel_rfl
 have hu26 := Tryd.underlying26
 have hu65 := Tryd.underlying65
 have HR0_0 := Aside0.mk hr0_0
 have HC0_0 := Aside0.mk hc0_0
 clear hr0_0 hc0_0
 have HR0_6 := Aside0.mk hr0_6
 have HC0_6 := Aside0.mk hc0_6
 clear hr0_6 hc0_6
 have HB := Aside0.mk (Below.refl w.heap.size w)
 have H : (walkmilllaw05_Green_weather.l0 k (([] : List (S40))) 0 l0_0 a0_1 a0_2 a0_3 a0_4 a0_5 l0_6) = some r := h
 clear h
 obtain ⟨y102, hy102⟩ : ∃ y_ : List (S40), y_ = (([] : List (S40))) := ⟨_, rfl⟩
 replace H : (walkmilllaw05_Green_weather.l0 k y102 0 l0_0 a0_1 a0_2 a0_3 a0_4 a0_5 l0_6) = some r := yy hy102 H
 have Ny102 := Aside0.mk hy102
 clear hy102
 have H' := Aside0.mk H
 clear H
 go_enter Tryd.func22, Tryd.ntmps22
 go_wp2_with (first | ((with_reducible refine gate_dst (N := 1) rfl ?_); (try (refine gate_guard (by rfl) ?_; dsimp only)); refine bx 1 #[.slice A0_0 l0_0.length c0_0, .int .u8 a0_1, .int .u8 a0_2, .int .u8 a0_3, .int .u8 a0_4, .int .u8 a0_5, .slice A0_6 l0_6.length c0_6] 26 ?_; intro gb101 hg w2 hbox hb; have BK101 := hbox; have GW101 := gs HB hg; have GE101 := gs HB hg; replace HB := bs HB hb; clear hb hbox hg) | ((with_reducible refine gate_dst (N := 7) rfl ?_); (try (refine gate_guard (by rfl) ?_; dsimp only)); refine Kd.R_lit k40 _ 40 ?hg (N := 7) ?hd (xs := ([] : List (S40))) (inner := []) (ok := fun _ => True) (okp := fun _ => True) ?hr ?hp (fun _ hk => hk) trivial (Below.refl _ _) (Nat.le_refl _) (by simp) ?_; (case hd => rfl); (case hg => rfl); (case hr => first | (go_simp; done) | (go_simp; rfl)); (case hp => exact (Reps.none _ _)); intro v103 w3 ho4 hb hg_ hnew_; clear hg_ hnew_; (first | rw [← Ny102.out] at ho4 | (simp only [Int.reduceToNat] at ho4; rw [← Ny102.out] at ho4)); have HO104 := rl ho4 HB; replace BK101 := bb BK101 hb; replace HB := bs HB hb; clear hb ho4))
 go_loopg [3, 4] k (fun kq v3 v4 w' => ∃ (x3_1 : List (S40)) (x4_1 : Int), v4 = .int .i64 x4_1 ∧ Aside0 (walkmilllaw05_Green_weather.l0 kq x3_1 x4_1 l0_0 a0_1 a0_2 a0_3 a0_4 a0_5 l0_6 = some r) ∧ Aside0 (kq ≤ k) ∧ Aside0 (Kd.R k40 40 w' w.heap.size (fun _ => True) v3 x3_1) ∧ Aside0 (w'.heap[gb101]? = some (.cells #[(.slice A0_0 l0_0.length c0_0), .int .u8 a0_1, .int .u8 a0_2, .int .u8 a0_3, .int .u8 a0_4, .int .u8 a0_5, (.slice A0_6 l0_6.length c0_6)] 26 (0, 0))) ∧ Aside0 (Below w.heap.size w w'))
 case atStart => exact ⟨(y102), (0), (by first | rfl | (simp; done) | (simp [*]; done)), H', ⟨Nat.le_refl _⟩, ⟨by (with_reducible repeat (first | apply Kd.R_alloc | apply Kd.R_drewN | apply Kd.R_drew)); exact HO104.out⟩, ⟨by (with_reducible repeat (first | refine blk_drewN ?_ _ | refine blk_drew ?_ | refine blk_alloc ?_ _)); exact BK101.out⟩, ⟨pE HB⟩⟩
 case round =>
  clear H'
  try clear c2
  try clear p2
  obtain ⟨x3_1, x4_1, rfl, HA, HK1, HO_3, BK101, HB⟩ := hrel
  cases gk with
  | zero => exact absurd HA.out (by simp [walkmilllaw05_Green_weather.l0])
  | succ k1 =>
   have H := HA.out
   clear HA
   simp only [walkmilllaw05_Green_weather.l0] at H
   have HC5 := Aside0.mk H
   clear H
   go_upto_region 3 with (fail)
   go_cut [20] (fun v20 wc => ∃ (kq : Nat) (x20_4 : Bool), v20 = .bool x20_4 ∧ Aside0 (walkmilllaw05_Green_weather.j1 kq x3_1 x4_1 x20_4 l0_0 a0_1 a0_2 a0_3 a0_4 a0_5 l0_6 = some r) ∧ Aside0 (kq ≤ k1) ∧ Aside0 (Kd.R k40 40 wc w.heap.size (fun _ => True) u3 x3_1) ∧ Aside0 (wc.heap[gb101]? = some (.cells #[(.slice A0_0 l0_0.length c0_0), .int .u8 a0_1, .int .u8 a0_2, .int .u8 a0_3, .int .u8 a0_4, .int .u8 a0_5, (.slice A0_6 l0_6.length c0_6)] 26 (0, 0))) ∧ Aside0 (Below w.heap.size w wc))
   case first =>
    have H := HC5.out
    clear HC5
    by_cases c6 : x4_1 = 0
    ·rw [if_pos c6] at H
     have c6b0 : (x4_1 == 0) = true := beq_iff_eq.mpr c6
     have c6b1 : (x4_1 != 0) = false := bne_eq_false_iff_eq.mpr c6
     clear c6
     (first | rw [c6b0] | (simp only [i64_w, i32_w]; rw [c6b0]) | skip)
     have H' := Aside0.mk H
     clear H
     go_wp2
     go_meet
     case rel => exact ⟨_, (true), (by first | rfl | (simp; done) | (simp [*]; done)), H', ⟨by have := HK1.out; first | omega | exact Nat.le_refl _⟩, ⟨by (with_reducible repeat (first | apply Kd.R_alloc | apply Kd.R_drewN | apply Kd.R_drew)); exact HO_3.out⟩, ⟨by (with_reducible repeat (first | refine blk_drewN ?_ _ | refine blk_drew ?_ | refine blk_alloc ?_ _)); exact BK101.out⟩, ⟨pE HB⟩⟩
    ·rw [if_neg c6] at H
     have c6b0 : (x4_1 == 0) = false := beq_eq_false_iff_ne.mpr c6
     have c6b1 : (x4_1 != 0) = true := bne_iff_ne.mpr c6
     (first | rw [c6b0] | (simp only [i64_w, i32_w]; rw [c6b0]) | skip)
     by_cases c7 : x4_1 < (l0_6.length : Int)
     ·rw [if_pos c7] at H
      have c7b0 : decide (x4_1 < (l0_6.length : Int)) = true := decide_eq_true c7
      clear c7
      have H' := Aside0.mk H
      clear H
      obtain ⟨hcz8_0, hcz8_1, hcz8_2, hcz8_3, hcz8_4, hcz8_5, hcz8_6, hfz8_0, hfz8_1, hfz8_2, hfz8_3, hfz8_4, hfz8_5, hfz8_6⟩ := cf7 BK101
      go_wp2
      go_meet
      case rel => exact ⟨_, (decide (x4_1 < 12)), (by first | rfl | (simp; done) | (simp [*]; done)), H', ⟨by have := HK1.out; first | omega | exact Nat.le_refl _⟩, ⟨by (with_reducible repeat (first | apply Kd.R_alloc | apply Kd.R_drewN | apply Kd.R_drew)); exact HO_3.out⟩, ⟨by (with_reducible repeat (first | refine blk_drewN ?_ _ | refine blk_drew ?_ | refine blk_alloc ?_ _)); exact BK101.out⟩, ⟨pE HB⟩⟩
     ·rw [if_neg c7] at H
      have c7b0 : decide (x4_1 < (l0_6.length : Int)) = false := decide_eq_false c7
      clear c7
      have H' := Aside0.mk H
      clear H
      obtain ⟨hcz9_0, hcz9_1, hcz9_2, hcz9_3, hcz9_4, hcz9_5, hcz9_6, hfz9_0, hfz9_1, hfz9_2, hfz9_3, hfz9_4, hfz9_5, hfz9_6⟩ := cf7 BK101
      go_wp2
      go_meet
      case rel => exact ⟨_, (false), (by first | rfl | (simp; done) | (simp [*]; done)), H', ⟨by have := HK1.out; first | omega | exact Nat.le_refl _⟩, ⟨by (with_reducible repeat (first | apply Kd.R_alloc | apply Kd.R_drewN | apply Kd.R_drew)); exact HO_3.out⟩, ⟨by (with_reducible repeat (first | refine blk_drewN ?_ _ | refine blk_drew ?_ | refine blk_alloc ?_ _)); exact BK101.out⟩, ⟨pE HB⟩⟩
   case rest =>
    clear HC5
    try clear c2
    try clear p2
    try clear c6
    try clear c6b0
    try clear c6b1
    try clear c7
    try clear c7b0
    try clear hcz8_0
    try clear hcz8_1
    try clear hcz8_2
    try clear hcz8_3
    try clear hcz8_4
    try clear hcz8_5
    try clear hcz8_6
    try clear hcz9_0
    try clear hcz9_1
    try clear hcz9_2
    try clear hcz9_3
    try clear hcz9_4
    try clear hcz9_5
    try clear hcz9_6
    try clear hfz8_0
    try clear hfz8_1
    try clear hfz8_2
    try clear hfz8_3
    try clear hfz8_4
    try clear hfz8_5
    try clear hfz8_6
    try clear hfz9_0
    try clear hfz9_1
    try clear hfz9_2
    try clear hfz9_3
    try clear hfz9_4
    try clear hfz9_5
    try clear hfz9_6
    try clear p2
    obtain ⟨kq, x20_4, rfl, HA, HJ4, HO_3, BK101, HB⟩ := hcut
    cases kq with
    | zero => exact absurd HA.out (by simp [walkmilllaw05_Green_weather.j1])
    | succ kj4 =>
     have H := HA.out
     clear HA
     simp only [walkmilllaw05_Green_weather.j1] at H
     by_cases c10 : x20_4 = true
     ·subst c10
      rw [if_pos rfl] at H
      by_cases c11 : x4_1 < (l0_6.length : Int)
      ·rw [if_pos c11] at H
       have c11b0 : decide (x4_1 < (l0_6.length : Int)) = true := decide_eq_true c11
       clear c11
       by_cases c12 : 0 ≤ x4_1
       ·rw [if_pos c12] at H
        have c12b0 : decide (0 ≤ x4_1) = true := decide_eq_true c12
        clear c12
        obtain ⟨⟨t107, t108⟩, A13, H⟩ := bi H
        by_cases c14 : x3_1.length < 8796093022208
        ·rw [if_pos c14] at H
         have LMc14 := Aside0.mk c14
         clear c14
         obtain ⟨y109, hy109⟩ : ∃ y_ : List (S40), y_ = (x3_1 ++ [(⟨t107, t108⟩ : S40)]) := ⟨_, rfl⟩
         replace H : (walkmilllaw05_Green_weather.l0 kj4 y109 (wrap64 (x4_1 + 1)) l0_0 a0_1 a0_2 a0_3 a0_4 a0_5 l0_6) = some r := yy hy109 H
         have Ny109 := Aside0.mk hy109
         clear hy109
         have H' := Aside0.mk H
         clear H
         go_wp2_with (first | ((with_reducible refine gate_dst (N := 5) rfl ?_); (try (refine gate_guard (by rfl) ?_; dsimp only)); refine bx 5 #[.int .u8 0, .int .u8 0] 65 ?_; intro gb105 hg w15 hbox hb; replace HO_3 := rb HO_3 hb; have BK105 := hbox; have GW105 := gs HB hg; have GE105 := gs HB hg; replace HB := bs HB hb; have NB101_105 := nl BK101 hg; have NB105_101 := nr BK101 hg; replace BK101 := bb BK101 hb; clear hb hbox hg; have hnb16 := NB105_101.out; have hnc16 := NB101_105.out; obtain ⟨_, _, _, _⟩ := cf2 BK105; have hbq : ((w15.setCell ⟨gb105, 0, none⟩ (.int .u8 20)).setCell ⟨gb105, 1, none⟩ (.int .u8 5)).heap[gb105]? = some (.cells #[.int .u8 20, .int .u8 5] 65 (0, 0)) := (by refine blk_put (cs := #[.int .u8 20, .int .u8 0]) ?_ 1 _ rfl; refine blk_put (cs := #[.int .u8 0, .int .u8 0]) ?_ 0 _ rfl; exact BK105.out); have hcq0 : ((w15.setCell ⟨gb105, 0, none⟩ (.int .u8 20)).setCell ⟨gb105, 1, none⟩ (.int .u8 5)).cell? ⟨gb105, 0, none⟩ = some (.int .u8 20) := (blk_cell hbq 0).trans rfl; have hcq1 : ((w15.setCell ⟨gb105, 0, none⟩ (.int .u8 20)).setCell ⟨gb105, 1, none⟩ (.int .u8 5)).cell? ⟨gb105, 1, none⟩ = some (.int .u8 5) := (blk_cell hbq 1).trans rfl; obtain ⟨_, _, _, _, _, _, _, _, _, _, _, _, _, _⟩ := cf7 BK101; have p106 : 0 ≤ (x4_1 : Int) := dT; have q106 : x4_1 < (l0_6.length : Int) := dT; obtain ⟨ad106, e106, hx106_0, hx106_1⟩ := at_T65 HR0_6.out x4_1 p106 q106; cases e106; have hn106_0 : ad106.block ≠ gb105 := Nat.ne_of_lt (Nat.lt_of_lt_of_le (by have := World.block_lt_of_cell? _ _ hx106_0; first | rwa [add_block] at this | exact this) GW105.out); have hn106_1 : ad106.block ≠ gb105 := Nat.ne_of_lt (Nat.lt_of_lt_of_le (by have := World.block_lt_of_cell? _ _ hx106_0; first | rwa [add_block] at this | exact this) GW105.out); replace hx106_0 := cut_ HB hx106_0; replace hx106_1 := cut_ HB hx106_1; replace hx106_0 := (cell_far (p := ⟨gb105, 0, none⟩) (by first | (rw [add_block]; exact hn106_0) | (show (Addr.add _ _).block ≠ _; rw [add_block]; exact hn106_0) | exact hn106_0) (.int .u8 20)).trans hx106_0; replace hx106_1 := (cell_far (p := ⟨gb105, 0, none⟩) (by first | (rw [add_block]; exact hn106_0) | (show (Addr.add _ _).block ≠ _; rw [add_block]; exact hn106_0) | exact hn106_0) (.int .u8 20)).trans hx106_1; replace hx106_0 := (cell_far (p := ⟨gb105, 1, none⟩) (by first | (rw [add_block]; exact hn106_1) | (show (Addr.add _ _).block ≠ _; rw [add_block]; exact hn106_1) | exact hn106_1) (.int .u8 5)).trans hx106_0; replace hx106_1 := (cell_far (p := ⟨gb105, 1, none⟩) (by first | (rw [add_block]; exact hn106_1) | (show (Addr.add _ _).block ≠ _; rw [add_block]; exact hn106_1) | exact hn106_1) (.int .u8 5)).trans hx106_1; clear hn106_0; clear hn106_1; replace p106 := eq_true p106; replace q106 := eq_true q106) | ((with_reducible refine gc 13 rfl ?_); refine gL 46 Tryd.func13 #[.int .i64 (Int.tmod (wrap64 ((rd_T65 l0_6 x4_1).f0)) 60), .int .i64 (wrap64 ((Int.tmod (wrap64 ((rd_T65 l0_6 x4_1).f0)) 60) + (Int.tmod (wrap64 ((rd_T65 l0_6 x4_1).f1)) 30)))] ?_; (with_reducible refine (walkmilllaw05_span.calls (Int.tmod (wrap64 ((rd_T65 l0_6 x4_1).f0)) 60) (wrap64 ((Int.tmod (wrap64 ((rd_T65 l0_6 x4_1).f0)) 60) + (Int.tmod (wrap64 ((rd_T65 l0_6 x4_1).f1)) 30))) t107 t108 _ A13.out).mono ?_); rintro e w19 ⟨rfl, hb⟩; refine ⟨_, rfl, ?_⟩; replace HO_3 := Aside0.mk (Kd.R_below (by refine pR ?_; exact (Kd.R_mono (Kd.R_far (p := ⟨gb105, 1, none⟩) (Kd.R_far (p := ⟨gb105, 0, none⟩) (Kd.R_far (p := ⟨gb105, 1, none⟩) (Kd.R_far (p := ⟨gb105, 0, none⟩) (Kd.R_types HO_3.out BK105.out (by decide)) (fun _ hk => hk.2) (.int .u8 20)) (fun _ hk => hk.2) (.int .u8 5)) (fun _ hk => hk.2) (.int .u8 ((rd_T65 l0_6 x4_1).f0))) (fun _ hk => hk.2) (.int .u8 ((rd_T65 l0_6 x4_1).f1))) (fun _ h_ => h_.1))) hb); replace BK101 := bf BK101 hb; replace BK105 := Aside0.mk (blk_below (g := gb105) (o := .cells #[.int .u8 ((rd_T65 l0_6 x4_1).f0), .int .u8 ((rd_T65 l0_6 x4_1).f1)] 65 (0, 0)) (by refine pB ?_; refine blk_put (cs := #[.int .u8 ((rd_T65 l0_6 x4_1).f0), .int .u8 5]) ?_ 1 _ rfl; refine pB ?_; refine blk_put (cs := #[.int .u8 20, .int .u8 5]) ?_ 0 _ rfl; refine pB ?_; refine blk_put (cs := #[.int .u8 20, .int .u8 0]) ?_ 1 _ rfl; refine pB ?_; refine blk_put (cs := #[.int .u8 0, .int .u8 0]) ?_ 0 _ rfl; (with_reducible repeat (first | refine blk_drewN ?_ _ | refine blk_drew ?_ | refine blk_alloc ?_ _)); exact BK105.out) hb); replace HB := bs HB hb; clear hb) | ((with_reducible refine gate_builtin (b := .append) (xs := #[.tmp 38, .tmp 47]) rfl ?_); (try (refine gate_guard (by rfl) ?_; dsimp only)); at_builtin; refine Kd.R_append k40 (w0 := w) w.heap.size rfl (.tmp 38) (.tmp 47) 34 40 (.agg #[(.int .i64 0), (.int .i64 0)]) 16 rfl Tryd.underlying34 info40 rfl (by decide) (by omega) u3 x3_1 (⟨t107, t108⟩ : S40) [.int .i64 t107, .int .i64 t108] (fun _ => True) (fun _ => False) rfl rfl ?aP (fun _ hk => hk.elim) ?aF ?aO ?aB ?aS ?aL ?_; (case aP => exact k40_mkM _ _ _ (⟨t107, t108⟩ : S40)); (case aB => exact (pE HB)); (case aF => exact (fun _ _ => trivial)); (case aO => exact (pR HO_3.out)); (case aS => exact (below_size (pE HB))); (case aL => have := LMc14.out; omega); intro v110 w20 ho hb hg hat; rw [← Ny109.out] at ho; replace BK101 := Aside0.mk (blk_grown (g := gb101) (o := .cells #[.slice A0_0 l0_0.length c0_0, .int .u8 a0_1, .int .u8 a0_2, .int .u8 a0_3, .int .u8 a0_4, .int .u8 a0_5, .slice (some ad106) l0_6.length c0_6] 26 (0, 0)) (pB BK101.out) hg (Kd.R_ne HO_3.out BK101.out (by decide))); replace BK105 := Aside0.mk (blk_grown (g := gb105) (o := .cells #[.int .u8 ((rd_T65 l0_6 x4_1).f0), .int .u8 ((rd_T65 l0_6 x4_1).f1)] 65 (0, 0)) (pB BK105.out) hg (Kd.R_ne HO_3.out BK105.out (by decide))); replace HB := Aside0.mk (hb); have HO111 := Aside0.mk (ho); clear HO_3; clear ho hb hg hat))
         go_roundg kj4
         case measure => have := HK1.out; have := HJ4.out; omega
         case rel => exact ⟨(y109), (wrap64 (x4_1 + 1)), (by first | rfl | (simp; done) | (simp [*]; done)), H', ⟨by have := HK1.out; have := HJ4.out; omega⟩, ⟨by (with_reducible repeat (first | apply Kd.R_alloc | apply Kd.R_drewN | apply Kd.R_drew)); exact HO111.out⟩, ⟨by (with_reducible repeat (first | refine blk_drewN ?_ _ | refine blk_drew ?_ | refine blk_alloc ?_ _)); exact BK101.out⟩, ⟨pE HB⟩⟩
        ·rw [if_neg c14] at H
         exact absurd H (by simp)
       ·rw [if_neg c12] at H
        exact absurd H (by simp)
      ·rw [if_neg c11] at H
       have c11b0 : decide (x4_1 < (l0_6.length : Int)) = false := decide_eq_false c11
       clear c11
       obtain ⟨⟨t112, t113⟩, A21, H⟩ := bi H
       by_cases c22 : x3_1.length < 8796093022208
       ·rw [if_pos c22] at H
        have LMc22 := Aside0.mk c22
        clear c22
        obtain ⟨y114, hy114⟩ : ∃ y_ : List (S40), y_ = (x3_1 ++ [(⟨t112, t113⟩ : S40)]) := ⟨_, rfl⟩
        replace H : (walkmilllaw05_Green_weather.l0 kj4 y114 (wrap64 (x4_1 + 1)) l0_0 a0_1 a0_2 a0_3 a0_4 a0_5 l0_6) = some r := yy hy114 H
        have Ny114 := Aside0.mk hy114
        clear hy114
        have H' := Aside0.mk H
        clear H
        go_wp2_with (first | ((with_reducible refine gate_dst (N := 5) rfl ?_); (try (refine gate_guard (by rfl) ?_; dsimp only)); refine bx 5 #[.int .u8 0, .int .u8 0] 65 ?_; intro gb105 hg w23 hbox hb; replace HO_3 := rb HO_3 hb; have BK105 := hbox; have GW105 := gs HB hg; have GE105 := gs HB hg; replace HB := bs HB hb; have NB101_105 := nl BK101 hg; have NB105_101 := nr BK101 hg; replace BK101 := bb BK101 hb; clear hb hbox hg; have hnb24 := NB105_101.out; have hnc24 := NB101_105.out; obtain ⟨_, _, _, _⟩ := cf2 BK105; have hbq : ((w23.setCell ⟨gb105, 0, none⟩ (.int .u8 20)).setCell ⟨gb105, 1, none⟩ (.int .u8 5)).heap[gb105]? = some (.cells #[.int .u8 20, .int .u8 5] 65 (0, 0)) := (by refine blk_put (cs := #[.int .u8 20, .int .u8 0]) ?_ 1 _ rfl; refine blk_put (cs := #[.int .u8 0, .int .u8 0]) ?_ 0 _ rfl; exact BK105.out); have hcq0 : ((w23.setCell ⟨gb105, 0, none⟩ (.int .u8 20)).setCell ⟨gb105, 1, none⟩ (.int .u8 5)).cell? ⟨gb105, 0, none⟩ = some (.int .u8 20) := (blk_cell hbq 0).trans rfl; have hcq1 : ((w23.setCell ⟨gb105, 0, none⟩ (.int .u8 20)).setCell ⟨gb105, 1, none⟩ (.int .u8 5)).cell? ⟨gb105, 1, none⟩ = some (.int .u8 5) := (blk_cell hbq 1).trans rfl; obtain ⟨_, _, _, _, _, _, _, _, _, _, _, _, _, _⟩ := cf7 BK101) | ((with_reducible refine gc 13 rfl ?_); refine gL 46 Tryd.func13 #[.int .i64 20, .int .i64 25] ?_; (with_reducible refine (walkmilllaw05_span.calls 20 25 t112 t113 _ A21.out).mono ?_); rintro e w27 ⟨rfl, hb⟩; refine ⟨_, rfl, ?_⟩; replace HO_3 := Aside0.mk (Kd.R_below (by refine pR ?_; exact (Kd.R_mono (Kd.R_far (p := ⟨gb105, 1, none⟩) (Kd.R_far (p := ⟨gb105, 0, none⟩) (Kd.R_types HO_3.out BK105.out (by decide)) (fun _ hk => hk.2) (.int .u8 20)) (fun _ hk => hk.2) (.int .u8 5)) (fun _ h_ => h_.1))) hb); replace BK101 := bf BK101 hb; replace BK105 := Aside0.mk (blk_below (g := gb105) (o := .cells #[.int .u8 20, .int .u8 5] 65 (0, 0)) (by refine pB ?_; refine blk_put (cs := #[.int .u8 20, .int .u8 0]) ?_ 1 _ rfl; refine pB ?_; refine blk_put (cs := #[.int .u8 0, .int .u8 0]) ?_ 0 _ rfl; (with_reducible repeat (first | refine blk_drewN ?_ _ | refine blk_drew ?_ | refine blk_alloc ?_ _)); exact BK105.out) hb); replace HB := bs HB hb; clear hb) | ((with_reducible refine gate_builtin (b := .append) (xs := #[.tmp 38, .tmp 47]) rfl ?_); (try (refine gate_guard (by rfl) ?_; dsimp only)); at_builtin; refine Kd.R_append k40 (w0 := w) w.heap.size rfl (.tmp 38) (.tmp 47) 34 40 (.agg #[(.int .i64 0), (.int .i64 0)]) 16 rfl Tryd.underlying34 info40 rfl (by decide) (by omega) u3 x3_1 (⟨t112, t113⟩ : S40) [.int .i64 t112, .int .i64 t113] (fun _ => True) (fun _ => False) rfl rfl ?aP (fun _ hk => hk.elim) ?aF ?aO ?aB ?aS ?aL ?_; (case aP => exact k40_mkM _ _ _ (⟨t112, t113⟩ : S40)); (case aB => exact (pE HB)); (case aF => exact (fun _ _ => trivial)); (case aO => exact (pR HO_3.out)); (case aS => exact (below_size (pE HB))); (case aL => have := LMc22.out; omega); intro v115 w28 ho hb hg hat; rw [← Ny114.out] at ho; replace BK101 := Aside0.mk (blk_grown (g := gb101) (o := .cells #[.slice A0_0 l0_0.length c0_0, .int .u8 a0_1, .int .u8 a0_2, .int .u8 a0_3, .int .u8 a0_4, .int .u8 a0_5, .slice A0_6 l0_6.length c0_6] 26 (0, 0)) (pB BK101.out) hg (Kd.R_ne HO_3.out BK101.out (by decide))); replace BK105 := Aside0.mk (blk_grown (g := gb105) (o := .cells #[.int .u8 20, .int .u8 5] 65 (0, 0)) (pB BK105.out) hg (Kd.R_ne HO_3.out BK105.out (by decide))); replace HB := Aside0.mk (hb); have HO116 := Aside0.mk (ho); clear HO_3; clear ho hb hg hat))
        go_roundg kj4
        case measure => have := HK1.out; have := HJ4.out; omega
        case rel => exact ⟨(y114), (wrap64 (x4_1 + 1)), (by first | rfl | (simp; done) | (simp [*]; done)), H', ⟨by have := HK1.out; have := HJ4.out; omega⟩, ⟨by (with_reducible repeat (first | apply Kd.R_alloc | apply Kd.R_drewN | apply Kd.R_drew)); exact HO116.out⟩, ⟨by (with_reducible repeat (first | refine blk_drewN ?_ _ | refine blk_drew ?_ | refine blk_alloc ?_ _)); exact BK101.out⟩, ⟨pE HB⟩⟩
       ·rw [if_neg c22] at H
        exact absurd H (by simp)
     ·replace c10 := Bool.eq_false_iff.mpr c10
      subst c10
      rw [if_neg (show ¬ (false = true) by decide)] at H
      obtain rfl := Option.some.inj H
      go_wp2
      go_ret
      exact ⟨_, eT, by (with_reducible repeat (first | apply Kd.R_alloc | apply Kd.R_drewN | apply Kd.R_drew)); exact HO_3.out, pE HB⟩
def walkmilllaw05_own.f (l0_0 : List (S42)) (l0_1 : List Int) (a0_2 : Int) (a0_3 : Int) : Option ((List (S42)) × List Int × Int × Int) := (some (([] : List (S42)) : List (S42))).bind fun y103 => (if y103.length + l0_0.length < 4398046511104 then ((some (([] : List Int) : List Int)).bind fun y109 => (if y109.length + l0_1.length < 17592186044416 then (some ((y103 ++ l0_0), (y109 ++ l0_1), a0_2, a0_3)) else (none))) else (none))
def walkmilllaw05_own.T1 : Bool × List (List Nat × List Nat) := (true, [([], []), ([], []), ([1], [1]), ([0, 2], [0, 2]), ([], []), ([], []), ([5], [5]), ([4, 6, 3], [4, 6]), ([], []), ([8], [8]), ([], []), ([10], [10]), ([3, 7, 9, 11], [3, 7, 9, 11]), ([12, 7, 0, 1, 2, 3, 4, 5, 6, 7, 8, 9, 10, 11, 12], [12])])
def walkmilllaw05_own.B1 : List Nat := [0, 0, 2, 7, 0, 0, 32, 127, 0, 256, 0, 1024, 4095, 8191]
theorem walkmilllaw05_own.tab1 : rtab .any (opsOf Tryd.f9 1) = walkmilllaw05_own.T1 := by kernel_rfl
theorem walkmilllaw05_own.bits1 : waitsOk walkmilllaw05_own.T1.2 walkmilllaw05_own.B1 = true := by kernel_rfl
set_option maxHeartbeats 8000000 in
set_option maxRecDepth 100000 in
theorem walkmilllaw05_own.calls (A0_0 : Option Addr) (c0_0 : Nat) (l0_0 : List (S42)) (A0_1 : Option Addr) (c0_1 : Nat) (l0_1 : List Int) (a0_2 : Int) (a0_3 : Int) (r1 : List (S42)) (r2 : List Int) (r3 : Int) (r4 : Int) (w : World) (hr0_0 : Kd.C k42 w A0_0 l0_0.length l0_0) (hc0_0 : l0_0.length ≤ c0_0) (hr0_1 : Kd.C (Kd.int .i64) w A0_1 l0_1.length l0_1) (hc0_1 : l0_1.length ≤ c0_1) (h : walkmilllaw05_own.f l0_0 l0_1 a0_2 a0_3 = some (r1, r2, r3, r4)) :
  Calls Tryd.prog 9 #[.agg #[.slice A0_0 l0_0.length c0_0, .slice A0_1 l0_1.length c0_1, .int .i64 a0_2, .int .i64 a0_3]] w fun e w' => ∃ v0_ v1_ : Value, e = .returned (.agg #[v0_, v1_, .int .i64 r3, .int .i64 r4]) ∧ Kd.R k42 42 w' w.heap.size (fun _ => True) v0_ r1 ∧ Kd.R (Kd.int .i64) 3 w' w.heap.size (fun _ => True) v1_ r2 ∧ Below w.heap.size w w' := by
 have hu32 := Tryd.underlying32
 have HR0_0 := Aside0.mk hr0_0
 have HC0_0 := Aside0.mk hc0_0
 clear hr0_0 hc0_0
 have HR0_1 := Aside0.mk hr0_1
 have HC0_1 := Aside0.mk hc0_1
 clear hr0_1 hc0_1
 have HB := Aside0.mk (Below.refl w.heap.size w)
 have H : ((some (([] : List (S42)) : List (S42))).bind fun y103 => (if y103.length + l0_0.length < 4398046511104 then ((some (([] : List Int) : List Int)).bind fun y109 => (if y109.length + l0_1.length < 17592186044416 then (some ((y103 ++ l0_0), (y109 ++ l0_1), a0_2, a0_3)) else (none))) else (none))) = some (r1, r2, r3, r4) := h
 clear h
 obtain ⟨y103, hy103⟩ : ∃ y_ : List (S42), y_ = (([] : List (S42))) := ⟨_, rfl⟩
 replace H : (if y103.length + l0_0.length < 4398046511104 then ((some (([] : List Int) : List Int)).bind fun y109 => (if y109.length + l0_1.length < 17592186044416 then (some ((y103 ++ l0_0), (y109 ++ l0_1), a0_2, a0_3)) else (none))) else (none)) = some (r1, r2, r3, r4) := yy hy103 H
 have Ny103 := Aside0.mk hy103
 clear hy103
 by_cases c2 : y103.length + l0_0.length < 4398046511104
 ·rw [if_pos c2] at H
  have LMc2 := Aside0.mk c2
  clear c2
  obtain ⟨y106, hy106⟩ : ∃ y_ : List (S42), y_ = (y103 ++ l0_0) := ⟨_, rfl⟩
  replace H : ((some (([] : List Int) : List Int)).bind fun y109 => (if y109.length + l0_1.length < 17592186044416 then (some (y106, (y109 ++ l0_1), a0_2, a0_3)) else (none))) = some (r1, r2, r3, r4) := yy hy106 H
  have Ny106 := Aside0.mk hy106
  clear hy106
  obtain ⟨y109, hy109⟩ : ∃ y_ : List Int, y_ = (([] : List Int)) := ⟨_, rfl⟩
  replace H : (if y109.length + l0_1.length < 17592186044416 then (some (y106, (y109 ++ l0_1), a0_2, a0_3)) else (none)) = some (r1, r2, r3, r4) := yy hy109 H
  have Ny109 := Aside0.mk hy109
  clear hy109
  by_cases c3 : y109.length + l0_1.length < 17592186044416
  ·rw [if_pos c3] at H
   have LMc3 := Aside0.mk c3
   clear c3
   obtain ⟨y112, hy112⟩ : ∃ y_ : List Int, y_ = (y109 ++ l0_1) := ⟨_, rfl⟩
   replace H : (some (y106, y112, a0_2, a0_3)) = some (r1, r2, r3, r4) := yy hy112 H
   have Ny112 := Aside0.mk hy112
   clear hy112
   simp only [Option.some.injEq, Prod.mk.injEq] at H
   obtain ⟨rfl, rfl, rfl, rfl⟩ := H
   go_enter Tryd.func9, Tryd.ntmps9
   try go_wp2_with (first | ((with_reducible refine gate_dst (N := 1) rfl ?_); refine bx 1 #[.slice A0_0 l0_0.length c0_0, .slice A0_1 l0_1.length c0_1, .int .i64 a0_2, .int .i64 a0_3] 32 ?_; intro gb101 hg w4 hbox hb; have BK101 := hbox; have GW101 := gs HB hg; have GE101 := gs HB hg; replace HB := bs HB hb; clear hb hbox hg) | ((with_reducible refine gate_dst (N := 2) rfl ?_); refine bx 2 #[.slice none 0 0, .slice none 0 0, .int .i64 0, .int .i64 0] 32 ?_; intro gb102 hg w5 hbox hb; have BK102 := hbox; have GW102 := gs HB hg; have GE102 := gs HB hg; replace HB := bs HB hb; have NB101_102 := nl BK101 hg; have NB102_101 := nr BK101 hg; replace BK101 := bb BK101 hb; clear hb hbox hg))
   replace BK101 := Aside0.mk (blk_drew BK101.out)
   replace BK102 := Aside0.mk (blk_drew BK102.out)
   replace HB := Aside0.mk (below_drew1 HB.out)
   refine start_ (n := 14) (S := fun w' => w'.cell? ⟨gb101, 0, none⟩ = some (.slice A0_0 l0_0.length c0_0) ∧ w'.cell? ⟨gb101, 1, none⟩ = some (.slice A0_1 l0_1.length c0_1) ∧ w'.cell? ⟨gb101, 2, none⟩ = some (.int .i64 a0_2) ∧ w'.cell? ⟨gb101, 3, none⟩ = some (.int .i64 a0_3)) (ds := []) #[false, false, false, false, false, false, false, false, false, false, false, false, false, false] (by kernel_rfl) rfl rfl ⟨(blk_cell BK101.out 0).trans rfl, (blk_cell BK101.out 1).trans rfl, (blk_cell BK101.out 2).trans rfl, (blk_cell BK101.out 3).trans rfl⟩ (fun hHeld => ?_); refine with_tabW walkmilllaw05_own.tab1 walkmilllaw05_own.bits1 (fun HT_ HW_ => ?_)
   generalize w5.drew = w6 at BK101 BK102 HB hHeld ⊢
   refine pu 1 4 ?_
   refine pu 5 8 ?_
   refine pu 8 11 ?_
   refine pu 10 13 ?_
   refine tk 2 5 hHeld ?_
   refine tk 6 9 hHeld ?_
   refine tk 9 12 hHeld ?_
   refine tk 11 14 hHeld ?_
   refine join_ (σ := Value × Value × Value) 3 #[true, true, true, true, true, true, true, false, true, true, true, true, false, false] (fun s_ => [(3, s_.1), (6, s_.2.1), (7, s_.2.2)]) (fun s_ w' => (w'.cell? ⟨gb101, 0, none⟩ = some (.slice A0_0 l0_0.length c0_0) ∧ w'.cell? ⟨gb101, 1, none⟩ = some (.slice A0_1 l0_1.length c0_1) ∧ w'.cell? ⟨gb101, 2, none⟩ = some (.int .i64 a0_2) ∧ w'.cell? ⟨gb101, 3, none⟩ = some (.int .i64 a0_3)) ∧ (Kd.R k42 42 w' w.heap.size (fun _ => True) s_.2.1 y106) ∧ (Kd.R (Kd.int .i64) 3 w' w.heap.size (fun _ => True) s_.2.2 y109) ∧ (w'.heap[gb101]? = some (.cells #[.slice A0_0 l0_0.length c0_0, .slice A0_1 l0_1.length c0_1, .int .i64 a0_2, .int .i64 a0_3] 32 (0, 0))) ∧ (w'.heap[gb102]? = some (.cells #[.slice none 0 0, .slice none 0 0, .int .i64 0, .int .i64 0] 32 (0, 0))) ∧ (Below w.heap.size w w')) ?_ ?_
   rotate_left
   ·intro hCont
    refine two_ (i := 0) (j := 4) (Ni := some 3) (Nj := some 7) #[true, true, true, false, false, true, true, false, true, true, true, true, false, false] #[false, true, true, false, true, true, true, false, true, true, true, true, false, false] rfl rfl rfl rfl (two_of HT_.out (by kernel_rfl)) (by decide) (by decide) (fun K hK => ?_) (fun K hK => ?_)
    ·skip
     refine Kd.R_lit_step k42 _ 42 ?hg (N := 3) ?hd (xs := ([] : List (S42))) (inner := []) (ok := fun _ => True) (okp := fun _ => True) ?hr ?hp (fun _ hk => hk) trivial (Below.refl _ _) (Nat.le_refl _) (by simp) ?_; (case hd => rfl); (case hg => rfl); (case hr => first | (go_simp; done) | (go_simp; rfl)); (case hp => exact (Reps.none _ _))
     intro v104 w7 ho8 hb hg_ hnew_
     clear hg_ hnew_
     (first | rw [← Ny103.out] at ho8 | (simp only [Int.reduceToNat] at ho8; rw [← Ny103.out] at ho8))
     have HO105 := rl ho8 HB
     replace BK101 := bb BK101 hb
     replace BK102 := bb BK102 hb
     replace HB := bs HB hb
     clear hb ho8
     refine hK.out _ _ ⟨(blk_cell BK101.out 0).trans rfl, (blk_cell BK101.out 1).trans rfl, (blk_cell BK101.out 2).trans rfl, (blk_cell BK101.out 3).trans rfl⟩ (fun hHeld => ?_)
     clear hK K
     refine norm_ (a' := ?_) ?_ ?_
     rotate_left
     ·show Act.put _ (some 3) _ = _
      simp only [Act.put, List.setIfInBounds_toArray, List.set_cons_zero, List.set_cons_succ, i64_w, i32_w]
      rfl
     refine two_ (i := 3) (j := 4) (Ni := some 6) (Nj := some 7) #[true, true, true, true, false, true, true, false, true, true, true, true, false, false] #[true, true, true, false, true, true, true, false, true, true, true, true, false, false] rfl rfl rfl rfl (two_of HT_.out (by kernel_rfl)) (by decide) (by decide) (fun K hK => ?_) (fun K hK => ?_)
     ·skip
      refine Kd.R_append_rows_step k42 (w0 := w) w.heap.size (by rfl) (.tmp 3) (.tmp 5) 29 42 (.agg #[(.int .i64 0), (.int .i64 0), (.int .i64 0), (.int .i64 0)]) 32 rfl Tryd.underlying29 info42 rfl (by decide) (by omega) v104 y103 l0_0 _ _ _ (fun _ => True) (fun _ => False) rfl rfl ?aO ?aR (fun _ _ h => h) (fun _ h => h.elim) ?aF ?aB ?aS ?aL ?_
      (case aR => exact pC (Kd.C_below HR0_0.out HB.out))
      (case aB => exact (pE HB))
      (case aF => exact (fun _ _ => trivial))
      (case aO => exact (pR HO105.out))
      (case aS => exact (below_size (pE HB)))
      (case aL => have := LMc2.out; omega)
      intro v107 w9 ho hb hg hat
      rw [← Ny106.out] at ho
      replace BK101 := Aside0.mk (blk_grown (g := gb101) (o := .cells #[.slice A0_0 l0_0.length c0_0, .slice A0_1 l0_1.length c0_1, .int .i64 a0_2, .int .i64 a0_3] 32 (0, 0)) (pB BK101.out) hg (Kd.R_ne HO105.out BK101.out (by decide)))
      replace BK102 := Aside0.mk (blk_grown (g := gb102) (o := .cells #[.slice none 0 0, .slice none 0 0, .int .i64 0, .int .i64 0] 32 (0, 0)) (pB BK102.out) hg (Kd.R_ne HO105.out BK102.out (by decide)))
      replace HB := Aside0.mk (hb)
      have HO108 := Aside0.mk (ho)
      clear HO105 ho hb hg hat
      refine hK.out _ _ ⟨(blk_cell BK101.out 0).trans rfl, (blk_cell BK101.out 1).trans rfl, (blk_cell BK101.out 2).trans rfl, (blk_cell BK101.out 3).trans rfl⟩ (fun hHeld => ?_)
      clear hK K
      refine norm_ (a' := ?_) ?_ ?_
      rotate_left
      ·show Act.put _ (some 6) _ = _
       simp only [Act.put, List.setIfInBounds_toArray, List.set_cons_zero, List.set_cons_succ, i64_w, i32_w]
       rfl
      refine on 4 (fun K hK => ?_)
      refine Kd.R_lit_step (Kd.int .i64) _ 3 ?hg (N := 7) ?hd (xs := ([] : List Int)) (inner := []) (ok := fun _ => True) (okp := fun _ => True) ?hr ?hp (fun _ hk => hk) trivial (Below.refl _ _) (Nat.le_refl _) (by simp) ?_; (case hd => rfl); (case hg => rfl); (case hr => first | (go_simp; done) | (go_simp; rfl)); (case hp => exact (Reps.none _ _))
      intro v110 w10 ho11 hb hg_ hnew_
      clear hg_ hnew_
      (first | rw [← Ny109.out] at ho11 | (simp only [Int.reduceToNat] at ho11; rw [← Ny109.out] at ho11))
      replace HO108 := rb HO108 hb
      have HO111 := rl ho11 HB
      replace BK101 := bb BK101 hb
      replace BK102 := bb BK102 hb
      replace HB := bs HB hb
      clear hb ho11
      refine hK.out _ _ ⟨(blk_cell BK101.out 0).trans rfl, (blk_cell BK101.out 1).trans rfl, (blk_cell BK101.out 2).trans rfl, (blk_cell BK101.out 3).trans rfl⟩ (fun hHeld => ?_)
      clear hK K
      refine norm_ (a' := ?_) ?_ ?_
      rotate_left
      ·show Act.put _ (some 7) _ = _
       simp only [Act.put, List.setIfInBounds_toArray, List.set_cons_zero, List.set_cons_succ, i64_w, i32_w]
       rfl
      exact norm_ (by simp only [putAll, Act.put, List.setIfInBounds_toArray, List.set_cons_zero, List.set_cons_succ]) (hCont (v104, v107, v110) _ ⟨hHeld, (pR HO108.out), (pR HO111.out), (pB BK101.out), (pB BK102.out), (pE HB)⟩)
     ·skip
      refine Kd.R_lit_step (Kd.int .i64) _ 3 ?hg (N := 7) ?hd (xs := ([] : List Int)) (inner := []) (ok := fun _ => True) (okp := fun _ => True) ?hr ?hp (fun _ hk => hk) trivial (Below.refl _ _) (Nat.le_refl _) (by simp) ?_; (case hd => rfl); (case hg => rfl); (case hr => first | (go_simp; done) | (go_simp; rfl)); (case hp => exact (Reps.none _ _))
      intro v110 w9 ho10 hb hg_ hnew_
      clear hg_ hnew_
      (first | rw [← Ny109.out] at ho10 | (simp only [Int.reduceToNat] at ho10; rw [← Ny109.out] at ho10))
      replace HO105 := rb HO105 hb
      have HO111 := rl ho10 HB
      replace BK101 := bb BK101 hb
      replace BK102 := bb BK102 hb
      replace HB := bs HB hb
      clear hb ho10
      refine hK.out _ _ ⟨(blk_cell BK101.out 0).trans rfl, (blk_cell BK101.out 1).trans rfl, (blk_cell BK101.out 2).trans rfl, (blk_cell BK101.out 3).trans rfl⟩ (fun hHeld => ?_)
      clear hK K
      refine norm_ (a' := ?_) ?_ ?_
      rotate_left
      ·show Act.put _ (some 7) _ = _
       simp only [Act.put, List.setIfInBounds_toArray, List.set_cons_zero, List.set_cons_succ, i64_w, i32_w]
       rfl
      refine on 3 (fun K hK => ?_)
      refine Kd.R_append_rows_step k42 (w0 := w) w.heap.size (by rfl) (.tmp 3) (.tmp 5) 29 42 (.agg #[(.int .i64 0), (.int .i64 0), (.int .i64 0), (.int .i64 0)]) 32 rfl Tryd.underlying29 info42 rfl (by decide) (by omega) v104 y103 l0_0 _ _ _ (fun _ => True) (fun _ => False) rfl rfl ?aO ?aR (fun _ _ h => h) (fun _ h => h.elim) ?aF ?aB ?aS ?aL ?_
      (case aR => exact pC (Kd.C_below HR0_0.out HB.out))
      (case aB => exact (pE HB))
      (case aF => exact (fun _ _ => trivial))
      (case aO => exact (pR HO105.out))
      (case aS => exact (below_size (pE HB)))
      (case aL => have := LMc2.out; omega)
      intro v107 w11 ho hb hg hat
      rw [← Ny106.out] at ho
      replace BK101 := Aside0.mk (blk_grown (g := gb101) (o := .cells #[.slice A0_0 l0_0.length c0_0, .slice A0_1 l0_1.length c0_1, .int .i64 a0_2, .int .i64 a0_3] 32 (0, 0)) (pB BK101.out) hg (Kd.R_ne HO105.out BK101.out (by decide)))
      replace BK102 := Aside0.mk (blk_grown (g := gb102) (o := .cells #[.slice none 0 0, .slice none 0 0, .int .i64 0, .int .i64 0] 32 (0, 0)) (pB BK102.out) hg (Kd.R_ne HO105.out BK102.out (by decide)))
      replace HO111 := Aside0.mk (Kd.R_over' (pR HO111.out) (Kd.R_typed (pR HO105.out)) (by decide) hg)
      replace HB := Aside0.mk (hb)
      have HO108 := Aside0.mk (ho)
      clear HO105 ho hb hg hat
      refine hK.out _ _ ⟨(blk_cell BK101.out 0).trans rfl, (blk_cell BK101.out 1).trans rfl, (blk_cell BK101.out 2).trans rfl, (blk_cell BK101.out 3).trans rfl⟩ (fun hHeld => ?_)
      clear hK K
      refine norm_ (a' := ?_) ?_ ?_
      rotate_left
      ·show Act.put _ (some 6) _ = _
       simp only [Act.put, List.setIfInBounds_toArray, List.set_cons_zero, List.set_cons_succ, i64_w, i32_w]
       rfl
      exact norm_ (by simp only [putAll, Act.put, List.setIfInBounds_toArray, List.set_cons_zero, List.set_cons_succ]) (hCont (v104, v107, v110) _ ⟨hHeld, (pR HO108.out), (pR HO111.out), (pB BK101.out), (pB BK102.out), (pE HB)⟩)
    ·skip
     refine Kd.R_lit_step (Kd.int .i64) _ 3 ?hg (N := 7) ?hd (xs := ([] : List Int)) (inner := []) (ok := fun _ => True) (okp := fun _ => True) ?hr ?hp (fun _ hk => hk) trivial (Below.refl _ _) (Nat.le_refl _) (by simp) ?_; (case hd => rfl); (case hg => rfl); (case hr => first | (go_simp; done) | (go_simp; rfl)); (case hp => exact (Reps.none _ _))
     intro v110 w7 ho8 hb hg_ hnew_
     clear hg_ hnew_
     (first | rw [← Ny109.out] at ho8 | (simp only [Int.reduceToNat] at ho8; rw [← Ny109.out] at ho8))
     have HO111 := rl ho8 HB
     replace BK101 := bb BK101 hb
     replace BK102 := bb BK102 hb
     replace HB := bs HB hb
     clear hb ho8
     refine hK.out _ _ ⟨(blk_cell BK101.out 0).trans rfl, (blk_cell BK101.out 1).trans rfl, (blk_cell BK101.out 2).trans rfl, (blk_cell BK101.out 3).trans rfl⟩ (fun hHeld => ?_)
     clear hK K
     refine norm_ (a' := ?_) ?_ ?_
     rotate_left
     ·show Act.put _ (some 7) _ = _
      simp only [Act.put, List.setIfInBounds_toArray, List.set_cons_zero, List.set_cons_succ, i64_w, i32_w]
      rfl
     refine on 0 (fun K hK => ?_)
     refine Kd.R_lit_step k42 _ 42 ?hg (N := 3) ?hd (xs := ([] : List (S42))) (inner := []) (ok := fun _ => True) (okp := fun _ => True) ?hr ?hp (fun _ hk => hk) trivial (Below.refl _ _) (Nat.le_refl _) (by simp) ?_; (case hd => rfl); (case hg => rfl); (case hr => first | (go_simp; done) | (go_simp; rfl)); (case hp => exact (Reps.none _ _))
     intro v104 w9 ho10 hb hg_ hnew_
     clear hg_ hnew_
     (first | rw [← Ny103.out] at ho10 | (simp only [Int.reduceToNat] at ho10; rw [← Ny103.out] at ho10))
     replace HO111 := rb HO111 hb
     have HO105 := rl ho10 HB
     replace BK101 := bb BK101 hb
     replace BK102 := bb BK102 hb
     replace HB := bs HB hb
     clear hb ho10
     refine hK.out _ _ ⟨(blk_cell BK101.out 0).trans rfl, (blk_cell BK101.out 1).trans rfl, (blk_cell BK101.out 2).trans rfl, (blk_cell BK101.out 3).trans rfl⟩ (fun hHeld => ?_)
     clear hK K
     refine norm_ (a' := ?_) ?_ ?_
     rotate_left
     ·show Act.put _ (some 3) _ = _
      simp only [Act.put, List.setIfInBounds_toArray, List.set_cons_zero, List.set_cons_succ, i64_w, i32_w]
      rfl
     refine on 3 (fun K hK => ?_)
     refine Kd.R_append_rows_step k42 (w0 := w) w.heap.size (by rfl) (.tmp 3) (.tmp 5) 29 42 (.agg #[(.int .i64 0), (.int .i64 0), (.int .i64 0), (.int .i64 0)]) 32 rfl Tryd.underlying29 info42 rfl (by decide) (by omega) v104 y103 l0_0 _ _ _ (fun _ => True) (fun _ => False) rfl rfl ?aO ?aR (fun _ _ h => h) (fun _ h => h.elim) ?aF ?aB ?aS ?aL ?_
     (case aR => exact pC (Kd.C_below HR0_0.out HB.out))
     (case aB => exact (pE HB))
     (case aF => exact (fun _ _ => trivial))
     (case aO => exact (pR HO105.out))
     (case aS => exact (below_size (pE HB)))
     (case aL => have := LMc2.out; omega)
     intro v107 w11 ho hb hg hat
     rw [← Ny106.out] at ho
     replace BK101 := Aside0.mk (blk_grown (g := gb101) (o := .cells #[.slice A0_0 l0_0.length c0_0, .slice A0_1 l0_1.length c0_1, .int .i64 a0_2, .int .i64 a0_3] 32 (0, 0)) (pB BK101.out) hg (Kd.R_ne HO105.out BK101.out (by decide)))
     replace BK102 := Aside0.mk (blk_grown (g := gb102) (o := .cells #[.slice none 0 0, .slice none 0 0, .int .i64 0, .int .i64 0] 32 (0, 0)) (pB BK102.out) hg (Kd.R_ne HO105.out BK102.out (by decide)))
     replace HO111 := Aside0.mk (Kd.R_over' (pR HO111.out) (Kd.R_typed (pR HO105.out)) (by decide) hg)
     replace HB := Aside0.mk (hb)
     have HO108 := Aside0.mk (ho)
     clear HO105 ho hb hg hat
     refine hK.out _ _ ⟨(blk_cell BK101.out 0).trans rfl, (blk_cell BK101.out 1).trans rfl, (blk_cell BK101.out 2).trans rfl, (blk_cell BK101.out 3).trans rfl⟩ (fun hHeld => ?_)
     clear hK K
     refine norm_ (a' := ?_) ?_ ?_
     rotate_left
     ·show Act.put _ (some 6) _ = _
      simp only [Act.put, List.setIfInBounds_toArray, List.set_cons_zero, List.set_cons_succ, i64_w, i32_w]
      rfl
     exact norm_ (by simp only [putAll, Act.put, List.setIfInBounds_toArray, List.set_cons_zero, List.set_cons_succ]) (hCont (v104, v107, v110) _ ⟨hHeld, (pR HO108.out), (pR HO111.out), (pB BK101.out), (pB BK102.out), (pE HB)⟩)
   rintro ⟨v104, v107, v110⟩ w12 ⟨hS_, h0_, h1_, h2_, h3_, h4_⟩
   have n0_ : Aside0 (Kd.R k42 42 w12 w.heap.size (fun _ => True) v107 y106) := ⟨h0_⟩
   have n1_ : Aside0 (Kd.R (Kd.int .i64) 3 w12 w.heap.size (fun _ => True) v110 y109) := ⟨h1_⟩
   have n2_ : Aside0 (w12.heap[gb101]? = some (.cells #[.slice A0_0 l0_0.length c0_0, .slice A0_1 l0_1.length c0_1, .int .i64 a0_2, .int .i64 a0_3] 32 (0, 0))) := ⟨h2_⟩
   have n3_ : Aside0 (w12.heap[gb102]? = some (.cells #[.slice none 0 0, .slice none 0 0, .int .i64 0, .int .i64 0] 32 (0, 0))) := ⟨h3_⟩
   have n4_ : Aside0 (Below w.heap.size w w12) := ⟨h4_⟩
   clear BK101 BK102 HB h0_ h1_ h2_ h3_ h4_
   have HO108 := n0_
   have HO111 := n1_
   have BK101 := n2_
   have BK102 := n3_
   have HB := n4_
   clear n0_ n1_ n2_ n3_ n4_
   have hHeld : w12.cell? ⟨gb101, 0, none⟩ = some (.slice A0_0 l0_0.length c0_0) ∧ w12.cell? ⟨gb101, 1, none⟩ = some (.slice A0_1 l0_1.length c0_1) ∧ w12.cell? ⟨gb101, 2, none⟩ = some (.int .i64 a0_2) ∧ w12.cell? ⟨gb101, 3, none⟩ = some (.int .i64 a0_3) := hS_
   refine norm_ (a' := ?_) ?_ ?_
   rotate_left
   ·simp only [putAll, Act.put, List.setIfInBounds_toArray, List.set_cons_zero, List.set_cons_succ]
    rfl
   refine on 7 (fun K hK => ?_)
   refine Kd.R_append_rows_step (Kd.int .i64) (w0 := w) w.heap.size (by rfl) (.tmp 7) (.tmp 9) 30 3 (.int .i64 0) 8 rfl Tryd.underlying30 info3 rfl (by decide) (by omega) v110 y109 l0_1 _ _ _ (fun _ => True) (fun _ => False) rfl rfl ?aO ?aR (fun _ _ h => h) (fun _ h => h.elim) ?aF ?aB ?aS ?aL ?_
   (case aR => exact pC (Kd.C_below HR0_1.out HB.out))
   (case aB => exact (pE HB))
   (case aF => exact (fun _ _ => trivial))
   (case aO => exact (pR HO111.out))
   (case aS => exact (below_size (pE HB)))
   (case aL => have := LMc3.out; omega)
   intro v113 w13 ho hb hg hat
   rw [← Ny112.out] at ho
   replace BK101 := Aside0.mk (blk_grown (g := gb101) (o := .cells #[.slice A0_0 l0_0.length c0_0, .slice A0_1 l0_1.length c0_1, .int .i64 a0_2, .int .i64 a0_3] 32 (0, 0)) (pB BK101.out) hg (Kd.R_ne HO111.out BK101.out (by decide)))
   replace BK102 := Aside0.mk (blk_grown (g := gb102) (o := .cells #[.slice none 0 0, .slice none 0 0, .int .i64 0, .int .i64 0] 32 (0, 0)) (pB BK102.out) hg (Kd.R_ne HO111.out BK102.out (by decide)))
   replace HO108 := Aside0.mk (Kd.R_over' (pR HO108.out) (Kd.R_typed (pR HO111.out)) (by decide) hg)
   replace HB := Aside0.mk (hb)
   have HO114 := Aside0.mk (ho)
   clear HO111 ho hb hg hat
   obtain ⟨Ao14, co14, eo14⟩ := Kd.R_slice HO114.out
   (first | subst eo14 | (injection eo14 with f1_ f2_ f3_; have f4_ := f1_.symm; have f5_ := f3_.symm; clear f1_ f2_ f3_; subst f4_; subst f5_))
   obtain ⟨Ao15, co15, eo15⟩ := Kd.R_slice HO108.out
   (first | subst eo15 | (injection eo15 with f1_ f2_ f3_; have f4_ := f1_.symm; have f5_ := f3_.symm; clear f1_ f2_ f3_; subst f4_; subst f5_))
   refine hK.out _ _ ⟨(blk_cell BK101.out 0).trans rfl, (blk_cell BK101.out 1).trans rfl, (blk_cell BK101.out 2).trans rfl, (blk_cell BK101.out 3).trans rfl⟩ (fun hHeld => ?_)
   clear hK K
   refine norm_ (a' := ?_) ?_ ?_
   rotate_left
   ·show Act.put _ (some 10) _ = _
    simp only [Act.put, List.setIfInBounds_toArray, List.set_cons_zero, List.set_cons_succ, i64_w, i32_w]
    rfl
   refine pu 12 15 ?_
   refine on 13 (fun K hK => ?_)
   have hs16 : w13.cell? ⟨gb102, 0, none⟩ = some (.slice none 0 0) := (blk_cell BK102.out 0).trans rfl
   have hfs16 := blk_frozen BK102.out 0
   have hns16_0 := NB101_102.out
   have hms16_0 := NB102_101.out
   have hs17 : w13.cell? ⟨gb102, 1, none⟩ = some (.slice none 0 0) := (blk_cell BK102.out 1).trans rfl
   have hfs17 := blk_frozen BK102.out 1
   have hns17_0 := NB101_102.out
   have hms17_0 := NB102_101.out
   have hs18 : w13.cell? ⟨gb102, 2, none⟩ = some (.int .i64 0) := (blk_cell BK102.out 2).trans rfl
   have hfs18 := blk_frozen BK102.out 2
   have hns18_0 := NB101_102.out
   have hms18_0 := NB102_101.out
   have hs19 : w13.cell? ⟨gb102, 3, none⟩ = some (.int .i64 0) := (blk_cell BK102.out 3).trans rfl
   have hfs19 := blk_frozen BK102.out 3
   have hns19_0 := NB101_102.out
   have hms19_0 := NB102_101.out
   refine skip_ (w1 := ?_) (by rfl) rfl ?_ ?_
   rotate_left
   ·go_simp
    rfl
   refine hK.out _ _ ⟨((cell_far (p := ⟨gb102, _, none⟩) NB101_102.out _).trans (((cell_far (p := ⟨gb102, _, none⟩) NB101_102.out _).trans (((cell_far (p := ⟨gb102, _, none⟩) NB101_102.out _).trans (((cell_far (p := ⟨gb102, _, none⟩) NB101_102.out _).trans (hHeld.1)))))))), ((cell_far (p := ⟨gb102, _, none⟩) NB101_102.out _).trans (((cell_far (p := ⟨gb102, _, none⟩) NB101_102.out _).trans (((cell_far (p := ⟨gb102, _, none⟩) NB101_102.out _).trans (((cell_far (p := ⟨gb102, _, none⟩) NB101_102.out _).trans (hHeld.2.1)))))))), ((cell_far (p := ⟨gb102, _, none⟩) NB101_102.out _).trans (((cell_far (p := ⟨gb102, _, none⟩) NB101_102.out _).trans (((cell_far (p := ⟨gb102, _, none⟩) NB101_102.out _).trans (((cell_far (p := ⟨gb102, _, none⟩) NB101_102.out _).trans (hHeld.2.2.1)))))))), ((cell_far (p := ⟨gb102, _, none⟩) NB101_102.out _).trans (((cell_far (p := ⟨gb102, _, none⟩) NB101_102.out _).trans (((cell_far (p := ⟨gb102, _, none⟩) NB101_102.out _).trans (((cell_far (p := ⟨gb102, _, none⟩) NB101_102.out _).trans (hHeld.2.2.2))))))))⟩ (fun hHeld => ?_)
   clear hK K
   refine done_ (done_of HT_.out (by kernel_rfl)) ?_
   try go_wp2
   refine bodyPost_ret (results_cell_row rfl _ _ gb102 32 #[.slice Ao15 y106.length co15, .slice Ao14 y112.length co14, .int .i64 a0_2, .int .i64 a0_3] (0, 0) _ rfl (by refine pB ?_; refine blk_put (cs := #[.slice Ao15 y106.length co15, .slice Ao14 y112.length co14, .int .i64 a0_2, .int .i64 0]) ?_ 3 _ rfl; refine pB ?_; refine blk_put (cs := #[.slice Ao15 y106.length co15, .slice Ao14 y112.length co14, .int .i64 0, .int .i64 0]) ?_ 2 _ rfl; refine pB ?_; refine blk_put (cs := #[.slice Ao15 y106.length co15, .slice none 0 0, .int .i64 0, .int .i64 0]) ?_ 1 _ rfl; refine pB ?_; refine blk_put (cs := #[.slice none 0 0, .slice none 0 0, .int .i64 0, .int .i64 0]) ?_ 0 _ rfl; (with_reducible repeat (first | refine blk_drewN ?_ _ | refine blk_drew ?_ | refine blk_alloc ?_ _)); exact BK102.out) Tryd.underlying32 rfl (by kernel_rfl)) rfl ?_
   exact ⟨_, _, eT, by (with_reducible repeat (first | apply Kd.R_alloc | apply Kd.R_drewN | apply Kd.R_drew)); exact Kd.R_mono (Kd.R_far (p := ⟨gb102, 3, none⟩) (Kd.R_far (p := ⟨gb102, 2, none⟩) (Kd.R_far (p := ⟨gb102, 1, none⟩) (Kd.R_far (p := ⟨gb102, 0, none⟩) (Kd.R_types HO108.out BK102.out (by decide)) (fun _ hk => hk.2) (.slice Ao15 y106.length co15)) (fun _ hk => hk.2) (.slice Ao14 y112.length co14)) (fun _ hk => hk.2) (.int .i64 a0_2)) (fun _ hk => hk.2) (.int .i64 a0_3)) (fun _ hk => trivial), by (with_reducible repeat (first | apply Kd.R_alloc | apply Kd.R_drewN | apply Kd.R_drew)); exact Kd.R_mono (Kd.R_far (p := ⟨gb102, 3, none⟩) (Kd.R_far (p := ⟨gb102, 2, none⟩) (Kd.R_far (p := ⟨gb102, 1, none⟩) (Kd.R_far (p := ⟨gb102, 0, none⟩) (Kd.R_types HO114.out BK102.out (by decide)) (fun _ hk => hk.2) (.slice Ao15 y106.length co15)) (fun _ hk => hk.2) (.slice Ao14 y112.length co14)) (fun _ hk => hk.2) (.int .i64 a0_2)) (fun _ hk => hk.2) (.int .i64 a0_3)) (fun _ hk => trivial), pE HB⟩
  ·rw [if_neg c3] at H
   exact absurd H (by simp)
 ·rw [if_neg c2] at H
  exact absurd H (by simp)
def walkmilllaw05_byteOf.f (l0 : List Int) (a1 : Int) : Option (Int) := if (l0.length : Int) = 0 then (some 0) else (if 0 ≤ (Int.tmod a1 (l0.length : Int)) then (if (Int.tmod a1 (l0.length : Int)) < (l0.length : Int) then (some (wrap64 (rd l0 (Int.tmod a1 (l0.length : Int))))) else (none)) else (none))
set_option maxHeartbeats 8000000 in
set_option maxRecDepth 100000 in
theorem walkmilllaw05_byteOf.calls (A0 : Option Addr) (c0 : Nat) (l0 : List Int) (a1 : Int) (r : Int) (w : World) (hr0 : Kd.C (Kd.int .u8) w A0 l0.length l0) (hc0 : l0.length ≤ c0) (h : walkmilllaw05_byteOf.f l0 a1 = some r) :
  Calls Tryd.prog 11 #[.slice A0 l0.length c0, .int .i64 a1] w fun e w' => e = .returned (.int .i64 r) ∧ Drawn0 w w' := by
 have HR0 := Aside0.mk hr0
 have HC0 := Aside0.mk hc0
 clear hr0 hc0
 have H : (if (l0.length : Int) = 0 then (some 0) else (if 0 ≤ (Int.tmod a1 (l0.length : Int)) then (if (Int.tmod a1 (l0.length : Int)) < (l0.length : Int) then (some (wrap64 (rd l0 (Int.tmod a1 (l0.length : Int))))) else (none)) else (none))) = some r := h
 clear h
 by_cases c3 : (l0.length : Int) = 0
 ·rw [if_pos c3] at H
  have c3b0 : ((l0.length : Int) == 0) = true := beq_iff_eq.mpr c3
  have c3b1 : ((l0.length : Int) != 0) = false := bne_eq_false_iff_eq.mpr c3
  clear c3
  obtain rfl := Option.some.inj H
  go_enter Tryd.func11, Tryd.ntmps11
  go_wp2
  go_ret
  exact ⟨by first | rfl | (simp; done) | (simp [*]; done), by repeat (first | exact Drawn0.refl _ | apply Drawn0.step)⟩
 ·rw [if_neg c3] at H
  have c3b0 : ((l0.length : Int) == 0) = false := beq_eq_false_iff_ne.mpr c3
  have c3b1 : ((l0.length : Int) != 0) = true := bne_iff_ne.mpr c3
  have c3b2 : ¬ (l0 = []) := fun h_ => c3 (by rw [h_]; rfl)
  obtain ⟨ji4, hji4⟩ : ∃ j_ : Int, (Int.tmod a1 (l0.length : Int)) = j_ := ⟨_, rfl⟩
  replace H : (if 0 ≤ (ji4) then (if (ji4) < (l0.length : Int) then (some (wrap64 (rd l0 (ji4)))) else (none)) else (none)) = some r := by first | (rw [hji4] at H; exact H) | (simp only [hji4] at H ⊢; exact H)
  by_cases c5 : 0 ≤ (ji4)
  ·rw [if_pos c5] at H
   have c5b0 : decide (0 ≤ (ji4)) = true := decide_eq_true c5
   clear c5
   by_cases c6 : (ji4) < (l0.length : Int)
   ·rw [if_pos c6] at H
    have c6b0 : decide ((ji4) < (l0.length : Int)) = true := decide_eq_true c6
    clear c6
    obtain rfl := Option.some.inj H
    have p101 : 0 ≤ ((ji4) : Int) := dT
    have q101 : (ji4) < (l0.length : Int) := dT
    obtain ⟨ad101, e101, hx101_0⟩ := Kd.at_int HR0.out (ji4) p101 q101
    cases e101
    replace p101 := eq_true p101
    replace q101 := eq_true q101
    go_enter Tryd.func11, Tryd.ntmps11
    go_wp2
    go_ret
    exact ⟨by first | rfl | (simp; done) | (simp only [← hji4] <;> (first | rfl | simp)) | (simp [*]; done), by repeat (first | exact Drawn0.refl _ | apply Drawn0.step)⟩
   ·rw [if_neg c6] at H
    exact absurd H (by simp)
  ·rw [if_neg c5] at H
   exact absurd H (by simp)
end Go.Proofs.YtikmfpjcdcckeaaDoor.P
namespace Go.Proofs.YtikmfpjcdcckeaaDoor.P
open Go.RowKit Go.Proofs.YtikmfpjcdcckeaaDoorW.PrintWords Go.Proofs.YtikmfpjcdcckeaaDoorW.PrintLast Go.Proofs.YtikmfpjcdcckeaaDoorW.PrintMore
def B8 (n : Int) : Prop := 0 ≤ n ∧ n ≤ 255
def G4 (v : S71) : Prop := B8 v.f0 ∧ B8 v.f1 ∧ B8 v.f2 ∧ B8 v.f3
theorem span_eq (a b : Int) : walkmilllaw05_span.f a b = some (a, b) := rfl
theorem own_eq (l0 : List S42) (l1 : List Int) (g s : Int) (hm : l0.length ≤ 1000) (hn : l1.length ≤ 1000) : walkmilllaw05_own.f l0 l1 g s = some (l0, l1, g, s) := by
  unfold walkmilllaw05_own.f
  simp only [Option.bind_some, List.nil_append, List.length_nil, Nat.zero_add]
  rw [if_pos (by omega), if_pos (by omega)]
theorem tmod_pos {a n : Int} (h0 : 0 ≤ a) (hn : 0 < n) : 0 ≤ Int.tmod a n ∧ Int.tmod a n < n := by
  rw [Int.tmod_eq_emod_of_nonneg h0]
  exact ⟨Int.emod_nonneg _ (by omega), Int.emod_lt_of_pos _ hn⟩
def byOf (l : List Int) (i : Int) : Int := (walkmilllaw05_byteOf.f l i).getD 0
theorem byteOf_eq {l : List Int} (hl : ∀ x ∈ l, B8 x) {i : Int} (hi : 0 ≤ i) : walkmilllaw05_byteOf.f l i = some (byOf l i) ∧ B8 (byOf l i) := by
  have key : ∃ b, walkmilllaw05_byteOf.f l i = some b ∧ B8 b := by
    unfold walkmilllaw05_byteOf.f
    by_cases h : (l.length : Int) = 0
    · rw [if_pos h]; exact ⟨0, rfl, by unfold B8; omega⟩
    · have hp := tmod_pos hi (n := (l.length : Int)) (by omega)
      rw [if_neg h, if_pos hp.1, if_pos hp.2]
      obtain ⟨j, hj⟩ : ∃ j : Nat, Int.tmod i (l.length : Int) = j := ⟨(Int.tmod i (l.length : Int)).toNat, by omega⟩
      rw [hj, rd_at l j (by omega)]
      have hb := hl l[j] (List.getElem_mem _)
      exact ⟨l[j], by rw [w64_of (by have := hb.1; omega) (by have := hb.2; omega)], hb⟩
  obtain ⟨b, h1, h2⟩ := key
  unfold byOf
  rw [h1]
  exact ⟨rfl, h2⟩
theorem field_l1 (a1 a2 a3 a4 : Int) (h1 : B8 a1) (h2 : B8 a2) (h3 : B8 a3) (h4 : B8 a4) (l0 : List S71) (a5 : Int) (l6 : List S65) (cl : List S42) (g s : Int) (k : Nat) (hk : 10 < k) :
    ∃ fr : List Int, walkmilllaw05_Green_field.l1 k 0 l0 a1 a2 a3 a4 a5 l6 cl [] g s = some (cl, fr, g, s) ∧ 1 ≤ fr.length ∧ fr.length ≤ 3 ∧ ∀ x ∈ fr, 60 ≤ x ∧ x ≤ 1335 := by
  obtain ⟨k, rfl⟩ : ∃ m, k = m + 4 := ⟨k - 4, by omega⟩
  have f1 : wrap64 (60 + wrap64 (5 * wrap64 a1)) = 60 + 5 * a1 := by
    obtain ⟨x, y⟩ := h1
    rw [w64_of (n := a1) (by omega) (by omega), w64_of (n := 5 * a1) (by omega) (by omega), w64_of (by omega) (by omega)]
  have f2 : wrap64 (60 + wrap64 (5 * wrap64 a2)) = 60 + 5 * a2 := by
    obtain ⟨x, y⟩ := h2
    rw [w64_of (n := a2) (by omega) (by omega), w64_of (n := 5 * a2) (by omega) (by omega), w64_of (by omega) (by omega)]
  have f3 : wrap64 (60 + wrap64 (5 * wrap64 a3)) = 60 + 5 * a3 := by
    obtain ⟨x, y⟩ := h3
    rw [w64_of (n := a3) (by omega) (by omega), w64_of (n := 5 * a3) (by omega) (by omega), w64_of (by omega) (by omega)]
  obtain ⟨m, hm, hm0, hm3⟩ : ∃ m : Int, wrap64 (1 + Int.tmod (wrap64 (Int.tdiv (wrap64 a4) 32)) 3) = m ∧ 1 ≤ m ∧ m ≤ 3 := by
    obtain ⟨x, y⟩ := h4
    rw [w64_of (n := a4) (by omega) (by omega), Int.tdiv_eq_ediv_of_nonneg x, w64_of (n := a4 / 32) (by omega) (by omega)]
    have := tmod_pos (a := a4 / 32) (n := 3) (by omega) (by omega)
    rw [w64_of (by omega) (by omega)]
    exact ⟨_, rfl, by omega, by omega⟩
  have n1 : wrap64 (0 + 1) = 1 := by rw [w64_of (by omega) (by omega)]; rfl
  have n2 : wrap64 (1 + 1) = 2 := by rw [w64_of (by omega) (by omega)]; rfl
  have n3 : wrap64 (2 + 1) = 3 := by rw [w64_of (by omega) (by omega)]; rfl
  have s0 : ∀ k fr, walkmilllaw05_Green_field.l1 (k + 1) 0 l0 a1 a2 a3 a4 a5 l6 cl fr g s = if (fr : List Int).length < 17592186044416 then walkmilllaw05_Green_field.l1 k 1 l0 a1 a2 a3 a4 a5 l6 cl (fr ++ [60 + 5 * a1]) g s else none := fun k fr => by
    rw [walkmilllaw05_Green_field.l1, hm, if_pos (by omega), if_pos rfl, n1, f1]
  have s1 : ∀ k fr, walkmilllaw05_Green_field.l1 (k + 1) 1 l0 a1 a2 a3 a4 a5 l6 cl fr g s = if 1 < m then (if (fr : List Int).length < 17592186044416 then walkmilllaw05_Green_field.l1 k 2 l0 a1 a2 a3 a4 a5 l6 cl (fr ++ [60 + 5 * a2]) g s else none) else some (cl, fr, g, s) := fun k fr => by
    rw [walkmilllaw05_Green_field.l1, hm, if_neg (show ¬ (1 : Int) = 0 by omega), if_pos (show (1 : Int) = 1 from rfl), n2, f2]
  have s2 : ∀ k fr, walkmilllaw05_Green_field.l1 (k + 1) 2 l0 a1 a2 a3 a4 a5 l6 cl fr g s = if 2 < m then (if (fr : List Int).length < 17592186044416 then walkmilllaw05_Green_field.l1 k 3 l0 a1 a2 a3 a4 a5 l6 cl (fr ++ [60 + 5 * a3]) g s else none) else some (cl, fr, g, s) := fun k fr => by
    rw [walkmilllaw05_Green_field.l1, hm, if_neg (show ¬ (2 : Int) = 0 by omega), if_neg (show ¬ (2 : Int) = 1 by omega), if_pos (show (2 : Int) = 2 from rfl), n3, f3]
  have s3 : ∀ k fr, walkmilllaw05_Green_field.l1 (k + 1) 3 l0 a1 a2 a3 a4 a5 l6 cl fr g s = some (cl, fr, g, s) := fun k fr => by
    rw [walkmilllaw05_Green_field.l1, hm, if_neg (by omega)]
  have b1 := h1.1; have b1' := h1.2; have b2 := h2.1; have b2' := h2.2; have b3 := h3.1; have b3' := h3.2
  rw [show k + 4 = (k + 3) + 1 by omega, s0, if_pos (by simp), show k + 3 = (k + 2) + 1 by omega, s1]
  by_cases c1 : 1 < m
  · rw [if_pos c1, if_pos (by simp), show k + 2 = (k + 1) + 1 by omega, s2]
    by_cases c2 : 2 < m
    · rw [if_pos c2, if_pos (by simp), s3]
      refine ⟨_, rfl, by simp, by simp, ?_⟩
      intro x hx
      simp at hx
      omega
    · rw [if_neg c2]
      refine ⟨_, rfl, by simp, by simp, ?_⟩
      intro x hx
      simp at hx
      omega
  · rw [if_neg c1]
    refine ⟨_, rfl, by simp, by simp, ?_⟩
    intro x hx
    simp at hx
    omega
def greenC (c : S42) : Prop := clothOk c = true ∧ c.f0.f1 ≤ 600
theorem field_l0 (l0 : List S71) (h0 : ∀ v ∈ l0, G4 v) (a1 a2 a3 a4 : Int) (h1 : B8 a1) (h2 : B8 a2) (h3 : B8 a3) (h4 : B8 a4) (a5 : Int) (l6 : List S65) (g s : Int) : ∀ (d i k : Nat) (cl : List S42), i + d = 6 → 2 * d + 20 < k → cl.length ≤ i → (∀ c ∈ cl, greenC c) →
    ∃ (cl' : List S42) (fr : List Int), walkmilllaw05_Green_field.l0 k i l0 a1 a2 a3 a4 a5 l6 cl g s = some (cl', fr, g, s) ∧ cl'.length ≤ 6 ∧ (∀ c ∈ cl', greenC c) ∧ 1 ≤ fr.length ∧ fr.length ≤ 3 ∧ ∀ x ∈ fr, 60 ≤ x ∧ x ≤ 1335 := by
  have stop : ∀ (i k : Nat) (cl : List S42), i ≤ 6 → 12 < k → cl.length ≤ i → (∀ c ∈ cl, greenC c) →
      ∃ (cl' : List S42) (fr : List Int), walkmilllaw05_Green_field.j1 k i false l0 a1 a2 a3 a4 a5 l6 cl g s = some (cl', fr, g, s) ∧ cl'.length ≤ 6 ∧ (∀ c ∈ cl', greenC c) ∧ 1 ≤ fr.length ∧ fr.length ≤ 3 ∧ ∀ x ∈ fr, 60 ≤ x ∧ x ≤ 1335 := by
    intro i k cl hi hk hl hc
    obtain ⟨k, rfl⟩ : ∃ m, k = m + 1 := ⟨k - 1, by omega⟩
    obtain ⟨fr, e, f1, f2, f3⟩ := field_l1 a1 a2 a3 a4 h1 h2 h3 h4 l0 a5 l6 cl g s k (by omega)
    exact ⟨cl, fr, by rw [walkmilllaw05_Green_field.j1, if_neg (by simp)]; exact e, by omega, hc, f1, f2, f3⟩
  intro d
  induction d with
  | zero =>
    intro i k cl hd hk hl hc
    obtain ⟨k, rfl⟩ : ∃ m, k = m + 1 := ⟨k - 1, by omega⟩
    rw [walkmilllaw05_Green_field.l0]
    split
    · rw [show decide ((i : Int) < 6) = false by simp; omega]
      exact stop i k cl (by omega) (by omega) hl hc
    · exact stop i k cl (by omega) (by omega) hl hc
  | succ d ih =>
    intro i k cl hd hk hl hc
    obtain ⟨k, rfl⟩ : ∃ m, k = m + 2 := ⟨k - 2, by omega⟩
    rw [show k + 2 = (k + 1) + 1 by omega, walkmilllaw05_Green_field.l0]
    by_cases hlt : i < l0.length
    · have e : rd_T71 l0 (i : Int) = l0[i] := by unfold rd_T71; simp [List.getD_eq_getElem?_getD, List.getElem?_eq_getElem hlt]
      obtain ⟨⟨p0, p1⟩, ⟨q0, q1⟩, ⟨r0, r1⟩, ⟨t0, t1⟩⟩ := h0 l0[i] (List.getElem_mem _)
      rw [if_pos (by omega), show decide ((i : Int) < 6) = true by simp; omega, walkmilllaw05_Green_field.j1, if_pos rfl, if_pos (by omega), if_pos (by omega), e]
      have m1 := tmod_pos (a := l0[i].f1) (n := 14) q0 (by omega)
      have m2 := tmod_pos (a := l0[i].f3) (n := 20) t0 (by omega)
      rw [w64_of (n := l0[i].f0) (by omega) (by omega), w64_of (n := l0[i].f1) (by omega) (by omega), w64_of (n := l0[i].f2) (by omega) (by omega), w64_of (n := l0[i].f3) (by omega) (by omega),
        w64_of (n := 2 * l0[i].f0) (by omega) (by omega), w64_of (n := 40 + 2 * l0[i].f0) (by omega) (by omega), Int.tdiv_eq_ediv_of_nonneg r0, w64_of (n := l0[i].f2 / 2) (by omega) (by omega),
        w64_of (n := 40 + 2 * l0[i].f0 + _) (by omega) (by omega), w64_of (n := l0[i].f2 / 2 + _) (by omega) (by omega), span_eq, span_eq]
      simp only [Option.bind_some]
      rw [if_pos (by omega), nx i (by omega)]
      refine ih (i + 1) k _ (by omega) (by omega) (by simp; omega) ?_
      intro c hc'
      rcases List.mem_append.1 hc' with hc' | hc'
      · exact hc c hc'
      · obtain rfl := List.mem_singleton.1 hc'
        refine ⟨?_, by simp only; omega⟩
        unfold clothOk spanOk
        simp only [Bool.and_eq_true, isIn_iff, decide_eq_true_eq]
        omega
    · rw [if_neg (by omega)]
      exact stop i (k + 1) cl (by omega) (by omega) hl hc
theorem field_eq {l0 : List S71} (h0 : ∀ v ∈ l0, G4 v) {a1 a2 a3 a4 a5 : Int} (h1 : B8 a1) (h2 : B8 a2) (h3 : B8 a3) (h4 : B8 a4) (h5 : B8 a5) (l6 : List S65) (k : Nat) (hk : 40 < k) :
    ∃ (cl : List S42) (fr : List Int) (g s : Int), walkmilllaw05_Green_field.f k l0 a1 a2 a3 a4 a5 l6 = some (cl, fr, g, s) ∧ chk cl fr g s = 0 ∧ cl.length ≤ 6 := by
  unfold walkmilllaw05_Green_field.f
  obtain ⟨cl, fr, e, c1, c2, f1, f2, f3⟩ := field_l0 l0 h0 a1 a2 a3 a4 h1 h2 h3 h4 a5 l6 (Int.tmod (wrap64 a4) 30) (Int.tmod (wrap64 a5) 120) 6 0 k [] (by omega) (by omega) (by simp) (by simp)
  obtain ⟨u4, v4⟩ := h4
  obtain ⟨u5, v5⟩ := h5
  refine ⟨cl, fr, _, _, e, ?_, c1⟩
  rw [w64_of (n := a4) (by omega) (by omega), w64_of (n := a5) (by omega) (by omega)]
  have m4 := tmod_pos (a := a4) (n := 30) u4 (by omega)
  have m5 := tmod_pos (a := a5) (n := 120) u5 (by omega)
  unfold chk
  rw [if_neg (by omega), if_neg (by rw [show isIn 1 3 (fr.length : Int) = true from isIn_iff.2 (by omega)]; simp), if_pos]
  simp only [Bool.and_eq_true, List.all_eq_true, isIn_iff]
  exact ⟨⟨⟨fun c hc => (c2 c hc).1, fun x hx => by have := f3 x hx; omega⟩, by omega⟩, by omega⟩
def G2 (v : S65) : Prop := B8 v.f0 ∧ B8 v.f1
theorem spans_eq (l : List S40) (h : l.length ≤ 1000) : walkmilllaw05_spans.f l = some l := by
  unfold walkmilllaw05_spans.f
  simp only [Option.bind_some, List.nil_append, List.length_nil, Nat.zero_add]
  rw [if_pos (by omega)]
theorem weather_l (l0 : List S71) (a1 a2 a3 a4 a5 : Int) (l6 : List S65) (h6 : ∀ v ∈ l6, G2 v) : ∀ (d i k : Nat) (acc : List S40), i + d = 12 → 2 * d + 2 < k → acc.length = i → (∀ x ∈ acc, spanOk x.f0 x.f1 0 100 = true) →
    ∃ w : List S40, walkmilllaw05_Green_weather.l0 k acc i l0 a1 a2 a3 a4 a5 l6 = some w ∧ i ≤ w.length ∧ 1 ≤ w.length ∧ w.length ≤ 12 ∧ ∀ x ∈ w, spanOk x.f0 x.f1 0 100 = true := by
  have stop : ∀ (i k : Nat) (acc : List S40), 1 ≤ i → i ≤ 12 → 0 < k → acc.length = i → (∀ x ∈ acc, spanOk x.f0 x.f1 0 100 = true) →
      ∃ w : List S40, walkmilllaw05_Green_weather.j1 k acc i false l0 a1 a2 a3 a4 a5 l6 = some w ∧ i ≤ w.length ∧ 1 ≤ w.length ∧ w.length ≤ 12 ∧ ∀ x ∈ w, spanOk x.f0 x.f1 0 100 = true := by
    intro i k acc h1 hi hk hl ha
    obtain ⟨k, rfl⟩ : ∃ m, k = m + 1 := ⟨k - 1, by omega⟩
    exact ⟨acc, by rw [walkmilllaw05_Green_weather.j1, if_neg (by simp)], by omega, by omega, by omega, ha⟩
  intro d
  induction d with
  | zero =>
    intro i k acc hd hk hl ha
    obtain ⟨k, rfl⟩ : ∃ m, k = m + 1 := ⟨k - 1, by omega⟩
    rw [walkmilllaw05_Green_weather.l0, if_neg (by omega)]
    split
    · rw [show decide ((i : Int) < 12) = false by simp; omega]
      exact stop i k acc (by omega) (by omega) (by omega) hl ha
    · exact stop i k acc (by omega) (by omega) (by omega) hl ha
  | succ d ih =>
    intro i k acc hd hk hl ha
    obtain ⟨k, rfl⟩ : ∃ m, k = m + 2 := ⟨k - 2, by omega⟩
    have go : ∃ w : List S40, walkmilllaw05_Green_weather.j1 (k + 1) acc i true l0 a1 a2 a3 a4 a5 l6 = some w ∧ i ≤ w.length ∧ 1 ≤ w.length ∧ w.length ≤ 12 ∧ ∀ x ∈ w, spanOk x.f0 x.f1 0 100 = true := by
      have on : ∀ s : S40, spanOk s.f0 s.f1 0 100 = true → ∃ w : List S40, walkmilllaw05_Green_weather.l0 k (acc ++ [s]) (wrap64 ((i : Int) + 1)) l0 a1 a2 a3 a4 a5 l6 = some w ∧ i ≤ w.length ∧ 1 ≤ w.length ∧ w.length ≤ 12 ∧ ∀ x ∈ w, spanOk x.f0 x.f1 0 100 = true := by
        intro s hs
        rw [nx i (by omega)]
        obtain ⟨w, e, w1, w2, w3, w4⟩ := ih (i + 1) k (acc ++ [s]) (by omega) (by omega) (by simp; omega) (fun x hx => by
          rcases List.mem_append.1 hx with hx | hx
          · exact ha x hx
          · obtain rfl := List.mem_singleton.1 hx; exact hs)
        exact ⟨w, e, by omega, w2, w3, w4⟩
      rw [walkmilllaw05_Green_weather.j1, if_pos rfl]
      by_cases hlt : i < l6.length
      · have e : rd_T65 l6 (i : Int) = l6[i] := by unfold rd_T65; simp [List.getD_eq_getElem?_getD, List.getElem?_eq_getElem hlt]
        obtain ⟨⟨p0, p1⟩, ⟨q0, q1⟩⟩ := h6 l6[i] (List.getElem_mem _)
        have m1 := tmod_pos (a := l6[i].f0) (n := 60) p0 (by omega)
        have m2 := tmod_pos (a := l6[i].f1) (n := 30) q0 (by omega)
        rw [if_pos (by omega), if_pos (by omega), e, w64_of (n := l6[i].f0) (by omega) (by omega), w64_of (n := l6[i].f1) (by omega) (by omega), w64_of (n := _ + _) (by omega) (by omega), span_eq]
        simp only [Option.bind_some]
        rw [if_pos (by omega)]
        refine on _ ?_
        unfold spanOk
        simp only [Bool.and_eq_true, isIn_iff, decide_eq_true_eq]
        omega
      · rw [if_neg (by omega), span_eq]
        simp only [Option.bind_some]
        rw [if_pos (by omega)]
        exact on _ (by decide)
    rw [show k + 2 = (k + 1) + 1 by omega, walkmilllaw05_Green_weather.l0]
    by_cases hi0 : (i : Int) = 0
    · rw [if_pos hi0]; exact go
    rw [if_neg hi0]
    by_cases hlt : i < l6.length
    · rw [if_pos (by omega), show decide ((i : Int) < 12) = true by simp; omega]; exact go
    · rw [if_neg (by omega)]; exact stop i (k + 1) acc (by omega) (by omega) (by omega) hl ha
theorem weather_eq (l0 : List S71) (a1 a2 a3 a4 a5 : Int) {l6 : List S65} (h6 : ∀ v ∈ l6, G2 v) (k : Nat) (hk : 40 < k) :
    ∃ w : List S40, walkmilllaw05_Green_weather.f k l0 a1 a2 a3 a4 a5 l6 = some w ∧ 1 ≤ w.length ∧ w.length ≤ 12 ∧ ∀ x ∈ w, spanOk x.f0 x.f1 0 100 = true := by
  obtain ⟨w, e, _, w2, w3, w4⟩ := weather_l l0 a1 a2 a3 a4 a5 l6 h6 12 0 k [] (by omega) (by omega) rfl (by simp)
  exact ⟨w, e, w2, w3, w4⟩
theorem wx_zero {l0 : List S42} {l1 : List Int} {g s : Int} {w : List S40} (hc : chk l0 l1 g s = 0) (h1 : 1 ≤ w.length) (h2 : w.length ≤ 12) (h3 : ∀ x ∈ w, spanOk x.f0 x.f1 0 100 = true) {h : Int} (h4 : 0 ≤ h) (h5 : h ≤ (w.length : Int)) : wx l0 l1 g s w h = 0 := by
  unfold wx
  rw [if_pos hc, if_pos (isIn_iff.2 (by omega)), if_pos]
  simp only [Bool.and_eq_true, List.all_eq_true, isIn_iff]
  exact ⟨h3, h4, h5⟩
end Go.Proofs.YtikmfpjcdcckeaaDoor.P
namespace Go.Proofs.YtikmfpjcdcckeaaDoor.P
open Go.RowKit Go.Proofs.YtikmfpjcdcckeaaDoorW.PrintWords Go.Proofs.YtikmfpjcdcckeaaDoorW.PrintLast Go.Proofs.YtikmfpjcdcckeaaDoorW.PrintMore
attribute [local go_sem] max2_int min2_int max_two min_two max_three min_three max_four min_four
def slices_Clone_int_int.f (l0 : List Int) : Option (List Int) := (some (([] : List Int) : List Int)).bind fun y101 => (if y101.length + l0.length < 17592186044416 then (some (y101 ++ l0)) else (none))
set_option maxHeartbeats 8000000 in
set_option maxRecDepth 100000 in
theorem slices_Clone_int_int.calls (A0 : Option Addr) (c0 : Nat) (l0 : List Int) (r : List Int) (w : World) (hr0 : Kd.C (Kd.int .i64) w A0 l0.length l0) (hc0 : l0.length ≤ c0) (h : slices_Clone_int_int.f l0 = some r) :
  Calls Tryd.prog 51 #[.slice A0 l0.length c0] w fun e w' => ∃ v0_ : Value, e = .returned (v0_) ∧ Kd.R (Kd.int .i64) 3 w' w.heap.size (fun _ => True) v0_ r ∧ Below w.heap.size w w' := by
 cases A0 with
 | none =>
  have hl : l0 = [] := by
   cases l0 with
   | nil => rfl
   | cons x t => obtain ⟨ad, e, _⟩ := hr0.2.2 (by simp); cases e
  subst hl
  obtain rfl : [] = r := by simpa [slices_Clone_int_int.f] using h
  have hnl := fun (w_ : World) => Lib.run_eql_slice_nil_nil (P := Tryd.prog) w_ (t := 30) 0 c0 Tryd.underlying30
  clear h hr0 hc0
  go_enter Tryd.func51, Tryd.ntmps51
  go_wp2
  go_ret
  exact ⟨_, rfl, Kd.R_nil _ _ _ _ _, Below.refl _ _⟩
 | some ad0 =>
  have hnl := fun (w_ : World) (n_ c_ : Nat) => Lib.run_eql_slice_nil (P := Tryd.prog) w_ 30 3 (some ad0) n_ c_ 0 0 Tryd.underlying30
  have HR0 := Aside0.mk hr0
  have HC0 := Aside0.mk hc0
  clear hr0 hc0
  have HB := Aside0.mk (Below.refl w.heap.size w)
  have H : ((some (([] : List Int) : List Int)).bind fun y101 => (if y101.length + l0.length < 17592186044416 then (some (y101 ++ l0)) else (none))) = some r := h
  clear h
  obtain ⟨y101, hy101⟩ : ∃ y_ : List Int, y_ = (([] : List Int)) := ⟨_, rfl⟩
  replace H : (if y101.length + l0.length < 17592186044416 then (some (y101 ++ l0)) else (none)) = some r := yy hy101 H
  have Ny101 := Aside0.mk hy101
  clear hy101
  by_cases c2 : y101.length + l0.length < 17592186044416
  ·rw [if_pos c2] at H
   have LMc2 := Aside0.mk c2
   clear c2
   obtain ⟨y104, hy104⟩ : ∃ y_ : List Int, y_ = (y101 ++ l0) := ⟨_, rfl⟩
   replace H : (some y104) = some r := yy hy104 H
   have Ny104 := Aside0.mk hy104
   clear hy104
   obtain rfl := Option.some.inj H
   go_enter Tryd.func51, Tryd.ntmps51
   go_wp2_with (first | ((with_reducible refine gate_dst (N := 5) rfl ?_); refine Kd.R_lit (Kd.int .i64) _ 3 ?hg (N := 5) ?hd (xs := ([] : List Int)) (inner := []) (ok := fun _ => True) (okp := fun _ => True) ?hr ?hp (fun _ hk => hk) trivial (Below.refl _ _) (Nat.le_refl _) (by simp) ?_; (case hd => rfl); (case hg => rfl); (case hr => first | (go_simp; done) | (go_simp; rfl)); (case hp => exact (Reps.none _ _)); intro v102 w3 ho4 hb hg_ hnew_; clear hg_ hnew_; (first | rw [← Ny101.out] at ho4 | (simp only [Int.reduceToNat] at ho4; rw [← Ny101.out] at ho4)); have HO103 := rl ho4 HB; replace HB := bs HB hb; clear hb ho4) | ((with_reducible refine gate_builtin (b := .append) (xs := #[.tmp 5, .tmp 6]) rfl ?_); at_builtin; refine Kd.R_append_rows (Kd.int .i64) (w0 := w) w.heap.size rfl (.tmp 5) (.tmp 6) 30 3 (.int .i64 0) 8 rfl Tryd.underlying30 info3 rfl (by decide) (by omega) v102 y101 l0 _ _ _ (fun _ => True) (fun _ => False) rfl rfl ?aO ?aR (fun _ _ h => h) (fun _ h => h.elim) ?aF ?aB ?aS ?aL ?_; (case aR => exact pC (Kd.C_below HR0.out HB.out)); (case aB => exact (pE HB)); (case aF => exact (fun _ _ => trivial)); (case aO => exact (pR HO103.out)); (case aS => exact (below_size (pE HB))); (case aL => have := LMc2.out; omega); intro v105 w5 ho hb hg hat; rw [← Ny104.out] at ho; replace HB := Aside0.mk (hb); have HO106 := Aside0.mk (ho); clear HO103; clear ho hb hg hat))
   go_ret
   exact ⟨_, eT, by (with_reducible repeat (first | apply Kd.R_alloc | apply Kd.R_drewN | apply Kd.R_drew)); exact HO106.out, pE HB⟩
  ·rw [if_neg c2] at H
   exact absurd H (by simp)
def bits_Len64.j0 : Nat → Int → Int → Option (Int)
 | 0, _, _ => none
 | k + 1, x0, x2 => if x0 ≥ 65536 then (if (x0 / 65536) ≥ 256 then (if 0 ≤ (((x0 / 65536) / 256) % 256) then (if (((x0 / 65536) / 256) % 256) < 256 then (some (wrap64 ((wrap64 ((wrap64 (x2 + 16)) + 8)) + (wrap64 (bt (⟨#[0, 1, 2, 2, 3, 3, 3, 3, 4, 4, 4, 4, 4, 4, 4, 4, 5, 5, 5, 5, 5, 5, 5, 5, 5, 5, 5, 5, 5, 5, 5, 5, 6, 6, 6, 6, 6, 6, 6, 6, 6, 6, 6, 6, 6, 6, 6, 6, 6, 6, 6, 6, 6, 6, 6, 6, 6, 6, 6, 6, 6, 6, 6, 6, 7, 7, 7, 7, 7, 7, 7, 7, 7, 7, 7, 7, 7, 7, 7, 7, 7, 7, 7, 7, 7, 7, 7, 7, 7, 7, 7, 7, 7, 7, 7, 7, 7, 7, 7, 7, 7, 7, 7, 7, 7, 7, 7, 7, 7, 7, 7, 7, 7, 7, 7, 7, 7, 7, 7, 7, 7, 7, 7, 7, 7, 7, 7, 7, 8, 8, 8, 8, 8, 8, 8, 8, 8, 8, 8, 8, 8, 8, 8, 8, 8, 8, 8, 8, 8, 8, 8, 8, 8, 8, 8, 8, 8, 8, 8, 8, 8, 8, 8, 8, 8, 8, 8, 8, 8, 8, 8, 8, 8, 8, 8, 8, 8, 8, 8, 8, 8, 8, 8, 8, 8, 8, 8, 8, 8, 8, 8, 8, 8, 8, 8, 8, 8, 8, 8, 8, 8, 8, 8, 8, 8, 8, 8, 8, 8, 8, 8, 8, 8, 8, 8, 8, 8, 8, 8, 8, 8, 8, 8, 8, 8, 8, 8, 8, 8, 8, 8, 8, 8, 8, 8, 8, 8, 8, 8, 8, 8, 8, 8, 8, 8, 8, 8, 8, 8, 8, 8, 8, 8, 8, 8, 8]⟩ : ByteArray) (((x0 / 65536) / 256) % 256)))))) else (none)) else (none)) else (if 0 ≤ ((x0 / 65536) % 256) then (if ((x0 / 65536) % 256) < 256 then (some (wrap64 ((wrap64 (x2 + 16)) + (wrap64 (bt (⟨#[0, 1, 2, 2, 3, 3, 3, 3, 4, 4, 4, 4, 4, 4, 4, 4, 5, 5, 5, 5, 5, 5, 5, 5, 5, 5, 5, 5, 5, 5, 5, 5, 6, 6, 6, 6, 6, 6, 6, 6, 6, 6, 6, 6, 6, 6, 6, 6, 6, 6, 6, 6, 6, 6, 6, 6, 6, 6, 6, 6, 6, 6, 6, 6, 7, 7, 7, 7, 7, 7, 7, 7, 7, 7, 7, 7, 7, 7, 7, 7, 7, 7, 7, 7, 7, 7, 7, 7, 7, 7, 7, 7, 7, 7, 7, 7, 7, 7, 7, 7, 7, 7, 7, 7, 7, 7, 7, 7, 7, 7, 7, 7, 7, 7, 7, 7, 7, 7, 7, 7, 7, 7, 7, 7, 7, 7, 7, 7, 8, 8, 8, 8, 8, 8, 8, 8, 8, 8, 8, 8, 8, 8, 8, 8, 8, 8, 8, 8, 8, 8, 8, 8, 8, 8, 8, 8, 8, 8, 8, 8, 8, 8, 8, 8, 8, 8, 8, 8, 8, 8, 8, 8, 8, 8, 8, 8, 8, 8, 8, 8, 8, 8, 8, 8, 8, 8, 8, 8, 8, 8, 8, 8, 8, 8, 8, 8, 8, 8, 8, 8, 8, 8, 8, 8, 8, 8, 8, 8, 8, 8, 8, 8, 8, 8, 8, 8, 8, 8, 8, 8, 8, 8, 8, 8, 8, 8, 8, 8, 8, 8, 8, 8, 8, 8, 8, 8, 8, 8, 8, 8, 8, 8, 8, 8, 8, 8, 8, 8, 8, 8, 8, 8, 8, 8, 8, 8]⟩ : ByteArray) ((x0 / 65536) % 256)))))) else (none)) else (none))) else (if x0 ≥ 256 then (if 0 ≤ ((x0 / 256) % 256) then (if ((x0 / 256) % 256) < 256 then (some (wrap64 ((wrap64 (x2 + 8)) + (wrap64 (bt (⟨#[0, 1, 2, 2, 3, 3, 3, 3, 4, 4, 4, 4, 4, 4, 4, 4, 5, 5, 5, 5, 5, 5, 5, 5, 5, 5, 5, 5, 5, 5, 5, 5, 6, 6, 6, 6, 6, 6, 6, 6, 6, 6, 6, 6, 6, 6, 6, 6, 6, 6, 6, 6, 6, 6, 6, 6, 6, 6, 6, 6, 6, 6, 6, 6, 7, 7, 7, 7, 7, 7, 7, 7, 7, 7, 7, 7, 7, 7, 7, 7, 7, 7, 7, 7, 7, 7, 7, 7, 7, 7, 7, 7, 7, 7, 7, 7, 7, 7, 7, 7, 7, 7, 7, 7, 7, 7, 7, 7, 7, 7, 7, 7, 7, 7, 7, 7, 7, 7, 7, 7, 7, 7, 7, 7, 7, 7, 7, 7, 8, 8, 8, 8, 8, 8, 8, 8, 8, 8, 8, 8, 8, 8, 8, 8, 8, 8, 8, 8, 8, 8, 8, 8, 8, 8, 8, 8, 8, 8, 8, 8, 8, 8, 8, 8, 8, 8, 8, 8, 8, 8, 8, 8, 8, 8, 8, 8, 8, 8, 8, 8, 8, 8, 8, 8, 8, 8, 8, 8, 8, 8, 8, 8, 8, 8, 8, 8, 8, 8, 8, 8, 8, 8, 8, 8, 8, 8, 8, 8, 8, 8, 8, 8, 8, 8, 8, 8, 8, 8, 8, 8, 8, 8, 8, 8, 8, 8, 8, 8, 8, 8, 8, 8, 8, 8, 8, 8, 8, 8, 8, 8, 8, 8, 8, 8, 8, 8, 8, 8, 8, 8, 8, 8, 8, 8, 8, 8]⟩ : ByteArray) ((x0 / 256) % 256)))))) else (none)) else (none)) else (if 0 ≤ ((x0) % 256) then (if ((x0) % 256) < 256 then (some (wrap64 (x2 + (wrap64 (bt (⟨#[0, 1, 2, 2, 3, 3, 3, 3, 4, 4, 4, 4, 4, 4, 4, 4, 5, 5, 5, 5, 5, 5, 5, 5, 5, 5, 5, 5, 5, 5, 5, 5, 6, 6, 6, 6, 6, 6, 6, 6, 6, 6, 6, 6, 6, 6, 6, 6, 6, 6, 6, 6, 6, 6, 6, 6, 6, 6, 6, 6, 6, 6, 6, 6, 7, 7, 7, 7, 7, 7, 7, 7, 7, 7, 7, 7, 7, 7, 7, 7, 7, 7, 7, 7, 7, 7, 7, 7, 7, 7, 7, 7, 7, 7, 7, 7, 7, 7, 7, 7, 7, 7, 7, 7, 7, 7, 7, 7, 7, 7, 7, 7, 7, 7, 7, 7, 7, 7, 7, 7, 7, 7, 7, 7, 7, 7, 7, 7, 8, 8, 8, 8, 8, 8, 8, 8, 8, 8, 8, 8, 8, 8, 8, 8, 8, 8, 8, 8, 8, 8, 8, 8, 8, 8, 8, 8, 8, 8, 8, 8, 8, 8, 8, 8, 8, 8, 8, 8, 8, 8, 8, 8, 8, 8, 8, 8, 8, 8, 8, 8, 8, 8, 8, 8, 8, 8, 8, 8, 8, 8, 8, 8, 8, 8, 8, 8, 8, 8, 8, 8, 8, 8, 8, 8, 8, 8, 8, 8, 8, 8, 8, 8, 8, 8, 8, 8, 8, 8, 8, 8, 8, 8, 8, 8, 8, 8, 8, 8, 8, 8, 8, 8, 8, 8, 8, 8, 8, 8, 8, 8, 8, 8, 8, 8, 8, 8, 8, 8, 8, 8, 8, 8, 8, 8, 8, 8]⟩ : ByteArray) ((x0) % 256)))))) else (none)) else (none)))
def bits_Len64.f (k : Nat) (a0 : Int) : Option (Int) := if a0 ≥ 4294967296 then (bits_Len64.j0 k (a0 / 4294967296) 32) else (bits_Len64.j0 k a0 0)
theorem bits_Len64.mono_l : ∀ k, (∀ y0 y1, LeO (bits_Len64.j0 k y0 y1) (bits_Len64.j0 (k + 1) y0 y1))
 | 0 => fun _ _ r h => by simp [bits_Len64.j0] at h
 | k + 1 => by
  have ih0 := bits_Len64.mono_l k
  ·intro y0 y1
   unfold bits_Len64.j0
   repeat' first
   | (with_reducible exact ih0 _ _)
   | (with_reducible exact LeO.refl _)
   | (with_reducible exact LeO.none _)
   | (with_reducible refine LeO.ite ?_ ?_)
   | (with_reducible refine LeO.bind ?_ (fun _ => ?_))
   | exact ih0 _ _
   | exact LeO.none _
   | refine LeO.ite ?_ ?_
   | refine LeO.bind ?_ (fun _ => ?_)
theorem bits_Len64.mono : ∀ a0 k, LeO (bits_Len64.f k a0) (bits_Len64.f (k + 1) a0) := by
 intro a0 k
 have ih0 := bits_Len64.mono_l k
 unfold bits_Len64.f
 repeat' first
   | (with_reducible exact ih0 _ _)
   | (with_reducible exact LeO.refl _)
   | (with_reducible exact LeO.none _)
   | (with_reducible refine LeO.ite ?_ ?_)
   | (with_reducible refine LeO.bind ?_ (fun _ => ?_))
   | exact ih0 _ _
   | exact LeO.none _
   | refine LeO.ite ?_ ?_
   | refine LeO.bind ?_ (fun _ => ?_)
set_option maxHeartbeats 8000000 in
set_option maxRecDepth 100000 in
theorem bits_Len64.calls (k : Nat) (a0 : Int) (r : Int) (w : World) (h : bits_Len64.f k a0 = some r) :
  Calls Tryd.prog 89 #[.int .u64 a0] w fun e w' => e = .returned (.int .i64 r) ∧ Drawn0 w w' := by
 have H : (if a0 ≥ 4294967296 then (bits_Len64.j0 k (a0 / 4294967296) 32) else (bits_Len64.j0 k a0 0)) = some r := h
 clear h
 have HC2 := Aside0.mk H
 clear H
 go_enter Tryd.func89, Tryd.ntmps89
 go_upto_if 4 with (fail)
 go_cut [0, 2] (fun v0 v2 wc => ∃ (kq : Nat) (x0_1 : Int) (x2_1 : Int), v0 = .int .u64 x0_1 ∧ v2 = .int .i64 x2_1 ∧ Aside0 (bits_Len64.j0 kq x0_1 x2_1 = some r) ∧ Aside0 (kq ≤ k) ∧ Drawn0 w wc)
 case first =>
  have H := HC2.out
  clear HC2
  by_cases c3 : a0 ≥ 4294967296
  ·rw [if_pos c3] at H
   have c3b0 : decide (4294967296 ≤ a0) = true := decide_eq_true c3
   clear c3
   (first | rw [c3b0] | (simp only [i64_w, i32_w]; rw [c3b0]) | skip)
   have H' := Aside0.mk H
   clear H
   go_wp2
   go_meet
   case rel => exact ⟨_, (a0 / 4294967296), (32), (by first | rfl | (simp; done) | (simp [*]; done)), (by first | rfl | (simp; done) | (simp [*]; done)), H', ⟨by first | omega | exact Nat.le_refl _⟩, by repeat (first | exact Drawn0.refl _ | apply Drawn0.step)⟩
  ·rw [if_neg c3] at H
   have c3b0 : decide (4294967296 ≤ a0) = false := decide_eq_false c3
   clear c3
   (first | rw [c3b0] | (simp only [i64_w, i32_w]; rw [c3b0]) | skip)
   have H' := Aside0.mk H
   clear H
   go_wp2
   go_meet
   case rel => exact ⟨_, (a0), (0), (by first | rfl | (simp; done) | (simp [*]; done)), (by first | rfl | (simp; done) | (simp [*]; done)), H', ⟨by first | omega | exact Nat.le_refl _⟩, by repeat (first | exact Drawn0.refl _ | apply Drawn0.step)⟩
 case rest =>
  clear HC2
  try clear p2
  try clear c3
  try clear c3b0
  obtain ⟨kq, x0_1, x2_1, rfl, rfl, HA, HJ1, ⟨mc1, rfl⟩⟩ := hcut
  cases kq with
  | zero => exact absurd HA.out (by simp [bits_Len64.j0])
  | succ kj1 =>
   have H := HA.out
   clear HA
   simp only [bits_Len64.j0] at H
   by_cases c4 : x0_1 ≥ 65536
   ·rw [if_pos c4] at H
    have c4b0 : decide (65536 ≤ x0_1) = true := decide_eq_true c4
    clear c4
    by_cases c5 : (x0_1 / 65536) ≥ 256
    ·rw [if_pos c5] at H
     have c5b0 : decide (256 ≤ (x0_1 / 65536)) = true := decide_eq_true c5
     clear c5
     obtain ⟨ji6, hji6⟩ : ∃ j_ : Int, (((x0_1 / 65536) / 256) % 256) = j_ := ⟨_, rfl⟩
     replace H : (if 0 ≤ (ji6) then (if (ji6) < 256 then (some (wrap64 ((wrap64 ((wrap64 (x2_1 + 16)) + 8)) + (wrap64 (bt (⟨#[0, 1, 2, 2, 3, 3, 3, 3, 4, 4, 4, 4, 4, 4, 4, 4, 5, 5, 5, 5, 5, 5, 5, 5, 5, 5, 5, 5, 5, 5, 5, 5, 6, 6, 6, 6, 6, 6, 6, 6, 6, 6, 6, 6, 6, 6, 6, 6, 6, 6, 6, 6, 6, 6, 6, 6, 6, 6, 6, 6, 6, 6, 6, 6, 7, 7, 7, 7, 7, 7, 7, 7, 7, 7, 7, 7, 7, 7, 7, 7, 7, 7, 7, 7, 7, 7, 7, 7, 7, 7, 7, 7, 7, 7, 7, 7, 7, 7, 7, 7, 7, 7, 7, 7, 7, 7, 7, 7, 7, 7, 7, 7, 7, 7, 7, 7, 7, 7, 7, 7, 7, 7, 7, 7, 7, 7, 7, 7, 8, 8, 8, 8, 8, 8, 8, 8, 8, 8, 8, 8, 8, 8, 8, 8, 8, 8, 8, 8, 8, 8, 8, 8, 8, 8, 8, 8, 8, 8, 8, 8, 8, 8, 8, 8, 8, 8, 8, 8, 8, 8, 8, 8, 8, 8, 8, 8, 8, 8, 8, 8, 8, 8, 8, 8, 8, 8, 8, 8, 8, 8, 8, 8, 8, 8, 8, 8, 8, 8, 8, 8, 8, 8, 8, 8, 8, 8, 8, 8, 8, 8, 8, 8, 8, 8, 8, 8, 8, 8, 8, 8, 8, 8, 8, 8, 8, 8, 8, 8, 8, 8, 8, 8, 8, 8, 8, 8, 8, 8, 8, 8, 8, 8, 8, 8, 8, 8, 8, 8, 8, 8, 8, 8, 8, 8, 8, 8]⟩ : ByteArray) (ji6)))))) else (none)) else (none)) = some r := by first | (rw [hji6] at H; exact H) | (simp only [hji6] at H ⊢; exact H)
     by_cases c7 : 0 ≤ (ji6)
     ·rw [if_pos c7] at H
      have c7b0 : decide (0 ≤ (ji6)) = true := decide_eq_true c7
      clear c7
      by_cases c8 : (ji6) < 256
      ·rw [if_pos c8] at H
       have c8b0 : decide ((ji6) < 256) = true := decide_eq_true c8
       clear c8
       obtain rfl := Option.some.inj H
       have p9 : 0 ≤ ((ji6) : Int) := dT
       have q9 : (ji6) < (256 : Int) := dT
       have hx9 := bt_at (⟨#[0, 1, 2, 2, 3, 3, 3, 3, 4, 4, 4, 4, 4, 4, 4, 4, 5, 5, 5, 5, 5, 5, 5, 5, 5, 5, 5, 5, 5, 5, 5, 5, 6, 6, 6, 6, 6, 6, 6, 6, 6, 6, 6, 6, 6, 6, 6, 6, 6, 6, 6, 6, 6, 6, 6, 6, 6, 6, 6, 6, 6, 6, 6, 6, 7, 7, 7, 7, 7, 7, 7, 7, 7, 7, 7, 7, 7, 7, 7, 7, 7, 7, 7, 7, 7, 7, 7, 7, 7, 7, 7, 7, 7, 7, 7, 7, 7, 7, 7, 7, 7, 7, 7, 7, 7, 7, 7, 7, 7, 7, 7, 7, 7, 7, 7, 7, 7, 7, 7, 7, 7, 7, 7, 7, 7, 7, 7, 7, 8, 8, 8, 8, 8, 8, 8, 8, 8, 8, 8, 8, 8, 8, 8, 8, 8, 8, 8, 8, 8, 8, 8, 8, 8, 8, 8, 8, 8, 8, 8, 8, 8, 8, 8, 8, 8, 8, 8, 8, 8, 8, 8, 8, 8, 8, 8, 8, 8, 8, 8, 8, 8, 8, 8, 8, 8, 8, 8, 8, 8, 8, 8, 8, 8, 8, 8, 8, 8, 8, 8, 8, 8, 8, 8, 8, 8, 8, 8, 8, 8, 8, 8, 8, 8, 8, 8, 8, 8, 8, 8, 8, 8, 8, 8, 8, 8, 8, 8, 8, 8, 8, 8, 8, 8, 8, 8, 8, 8, 8, 8, 8, 8, 8, 8, 8, 8, 8, 8, 8, 8, 8, 8, 8, 8, 8, 8, 8]⟩ : ByteArray) (ji6)
       replace p9 := eq_true p9
       replace q9 := eq_true q9
       go_wp2
       go_ret
       exact ⟨by first | rfl | (simp; done) | (simp only [← hji6] <;> (first | rfl | simp)) | (simp [*]; done), by repeat (first | exact Drawn0.refl _ | apply Drawn0.step)⟩
      ·rw [if_neg c8] at H
       exact absurd H (by simp)
     ·rw [if_neg c7] at H
      exact absurd H (by simp)
    ·rw [if_neg c5] at H
     have c5b0 : decide (256 ≤ (x0_1 / 65536)) = false := decide_eq_false c5
     clear c5
     obtain ⟨ji10, hji10⟩ : ∃ j_ : Int, ((x0_1 / 65536) % 256) = j_ := ⟨_, rfl⟩
     replace H : (if 0 ≤ (ji10) then (if (ji10) < 256 then (some (wrap64 ((wrap64 (x2_1 + 16)) + (wrap64 (bt (⟨#[0, 1, 2, 2, 3, 3, 3, 3, 4, 4, 4, 4, 4, 4, 4, 4, 5, 5, 5, 5, 5, 5, 5, 5, 5, 5, 5, 5, 5, 5, 5, 5, 6, 6, 6, 6, 6, 6, 6, 6, 6, 6, 6, 6, 6, 6, 6, 6, 6, 6, 6, 6, 6, 6, 6, 6, 6, 6, 6, 6, 6, 6, 6, 6, 7, 7, 7, 7, 7, 7, 7, 7, 7, 7, 7, 7, 7, 7, 7, 7, 7, 7, 7, 7, 7, 7, 7, 7, 7, 7, 7, 7, 7, 7, 7, 7, 7, 7, 7, 7, 7, 7, 7, 7, 7, 7, 7, 7, 7, 7, 7, 7, 7, 7, 7, 7, 7, 7, 7, 7, 7, 7, 7, 7, 7, 7, 7, 7, 8, 8, 8, 8, 8, 8, 8, 8, 8, 8, 8, 8, 8, 8, 8, 8, 8, 8, 8, 8, 8, 8, 8, 8, 8, 8, 8, 8, 8, 8, 8, 8, 8, 8, 8, 8, 8, 8, 8, 8, 8, 8, 8, 8, 8, 8, 8, 8, 8, 8, 8, 8, 8, 8, 8, 8, 8, 8, 8, 8, 8, 8, 8, 8, 8, 8, 8, 8, 8, 8, 8, 8, 8, 8, 8, 8, 8, 8, 8, 8, 8, 8, 8, 8, 8, 8, 8, 8, 8, 8, 8, 8, 8, 8, 8, 8, 8, 8, 8, 8, 8, 8, 8, 8, 8, 8, 8, 8, 8, 8, 8, 8, 8, 8, 8, 8, 8, 8, 8, 8, 8, 8, 8, 8, 8, 8, 8, 8]⟩ : ByteArray) (ji10)))))) else (none)) else (none)) = some r := by first | (rw [hji10] at H; exact H) | (simp only [hji10] at H ⊢; exact H)
     by_cases c11 : 0 ≤ (ji10)
     ·rw [if_pos c11] at H
      have c11b0 : decide (0 ≤ (ji10)) = true := decide_eq_true c11
      clear c11
      by_cases c12 : (ji10) < 256
      ·rw [if_pos c12] at H
       have c12b0 : decide ((ji10) < 256) = true := decide_eq_true c12
       clear c12
       obtain rfl := Option.some.inj H
       have p13 : 0 ≤ ((ji10) : Int) := dT
       have q13 : (ji10) < (256 : Int) := dT
       have hx13 := bt_at (⟨#[0, 1, 2, 2, 3, 3, 3, 3, 4, 4, 4, 4, 4, 4, 4, 4, 5, 5, 5, 5, 5, 5, 5, 5, 5, 5, 5, 5, 5, 5, 5, 5, 6, 6, 6, 6, 6, 6, 6, 6, 6, 6, 6, 6, 6, 6, 6, 6, 6, 6, 6, 6, 6, 6, 6, 6, 6, 6, 6, 6, 6, 6, 6, 6, 7, 7, 7, 7, 7, 7, 7, 7, 7, 7, 7, 7, 7, 7, 7, 7, 7, 7, 7, 7, 7, 7, 7, 7, 7, 7, 7, 7, 7, 7, 7, 7, 7, 7, 7, 7, 7, 7, 7, 7, 7, 7, 7, 7, 7, 7, 7, 7, 7, 7, 7, 7, 7, 7, 7, 7, 7, 7, 7, 7, 7, 7, 7, 7, 8, 8, 8, 8, 8, 8, 8, 8, 8, 8, 8, 8, 8, 8, 8, 8, 8, 8, 8, 8, 8, 8, 8, 8, 8, 8, 8, 8, 8, 8, 8, 8, 8, 8, 8, 8, 8, 8, 8, 8, 8, 8, 8, 8, 8, 8, 8, 8, 8, 8, 8, 8, 8, 8, 8, 8, 8, 8, 8, 8, 8, 8, 8, 8, 8, 8, 8, 8, 8, 8, 8, 8, 8, 8, 8, 8, 8, 8, 8, 8, 8, 8, 8, 8, 8, 8, 8, 8, 8, 8, 8, 8, 8, 8, 8, 8, 8, 8, 8, 8, 8, 8, 8, 8, 8, 8, 8, 8, 8, 8, 8, 8, 8, 8, 8, 8, 8, 8, 8, 8, 8, 8, 8, 8, 8, 8, 8, 8]⟩ : ByteArray) (ji10)
       replace p13 := eq_true p13
       replace q13 := eq_true q13
       go_wp2
       go_ret
       exact ⟨by first | rfl | (simp; done) | (simp only [← hji10] <;> (first | rfl | simp)) | (simp [*]; done), by repeat (first | exact Drawn0.refl _ | apply Drawn0.step)⟩
      ·rw [if_neg c12] at H
       exact absurd H (by simp)
     ·rw [if_neg c11] at H
      exact absurd H (by simp)
   ·rw [if_neg c4] at H
    have c4b0 : decide (65536 ≤ x0_1) = false := decide_eq_false c4
    clear c4
    by_cases c14 : x0_1 ≥ 256
    ·rw [if_pos c14] at H
     have c14b0 : decide (256 ≤ x0_1) = true := decide_eq_true c14
     clear c14
     obtain ⟨ji15, hji15⟩ : ∃ j_ : Int, ((x0_1 / 256) % 256) = j_ := ⟨_, rfl⟩
     replace H : (if 0 ≤ (ji15) then (if (ji15) < 256 then (some (wrap64 ((wrap64 (x2_1 + 8)) + (wrap64 (bt (⟨#[0, 1, 2, 2, 3, 3, 3, 3, 4, 4, 4, 4, 4, 4, 4, 4, 5, 5, 5, 5, 5, 5, 5, 5, 5, 5, 5, 5, 5, 5, 5, 5, 6, 6, 6, 6, 6, 6, 6, 6, 6, 6, 6, 6, 6, 6, 6, 6, 6, 6, 6, 6, 6, 6, 6, 6, 6, 6, 6, 6, 6, 6, 6, 6, 7, 7, 7, 7, 7, 7, 7, 7, 7, 7, 7, 7, 7, 7, 7, 7, 7, 7, 7, 7, 7, 7, 7, 7, 7, 7, 7, 7, 7, 7, 7, 7, 7, 7, 7, 7, 7, 7, 7, 7, 7, 7, 7, 7, 7, 7, 7, 7, 7, 7, 7, 7, 7, 7, 7, 7, 7, 7, 7, 7, 7, 7, 7, 7, 8, 8, 8, 8, 8, 8, 8, 8, 8, 8, 8, 8, 8, 8, 8, 8, 8, 8, 8, 8, 8, 8, 8, 8, 8, 8, 8, 8, 8, 8, 8, 8, 8, 8, 8, 8, 8, 8, 8, 8, 8, 8, 8, 8, 8, 8, 8, 8, 8, 8, 8, 8, 8, 8, 8, 8, 8, 8, 8, 8, 8, 8, 8, 8, 8, 8, 8, 8, 8, 8, 8, 8, 8, 8, 8, 8, 8, 8, 8, 8, 8, 8, 8, 8, 8, 8, 8, 8, 8, 8, 8, 8, 8, 8, 8, 8, 8, 8, 8, 8, 8, 8, 8, 8, 8, 8, 8, 8, 8, 8, 8, 8, 8, 8, 8, 8, 8, 8, 8, 8, 8, 8, 8, 8, 8, 8, 8, 8]⟩ : ByteArray) (ji15)))))) else (none)) else (none)) = some r := by first | (rw [hji15] at H; exact H) | (simp only [hji15] at H ⊢; exact H)
     by_cases c16 : 0 ≤ (ji15)
     ·rw [if_pos c16] at H
      have c16b0 : decide (0 ≤ (ji15)) = true := decide_eq_true c16
      clear c16
      by_cases c17 : (ji15) < 256
      ·rw [if_pos c17] at H
       have c17b0 : decide ((ji15) < 256) = true := decide_eq_true c17
       clear c17
       obtain rfl := Option.some.inj H
       have p18 : 0 ≤ ((ji15) : Int) := dT
       have q18 : (ji15) < (256 : Int) := dT
       have hx18 := bt_at (⟨#[0, 1, 2, 2, 3, 3, 3, 3, 4, 4, 4, 4, 4, 4, 4, 4, 5, 5, 5, 5, 5, 5, 5, 5, 5, 5, 5, 5, 5, 5, 5, 5, 6, 6, 6, 6, 6, 6, 6, 6, 6, 6, 6, 6, 6, 6, 6, 6, 6, 6, 6, 6, 6, 6, 6, 6, 6, 6, 6, 6, 6, 6, 6, 6, 7, 7, 7, 7, 7, 7, 7, 7, 7, 7, 7, 7, 7, 7, 7, 7, 7, 7, 7, 7, 7, 7, 7, 7, 7, 7, 7, 7, 7, 7, 7, 7, 7, 7, 7, 7, 7, 7, 7, 7, 7, 7, 7, 7, 7, 7, 7, 7, 7, 7, 7, 7, 7, 7, 7, 7, 7, 7, 7, 7, 7, 7, 7, 7, 8, 8, 8, 8, 8, 8, 8, 8, 8, 8, 8, 8, 8, 8, 8, 8, 8, 8, 8, 8, 8, 8, 8, 8, 8, 8, 8, 8, 8, 8, 8, 8, 8, 8, 8, 8, 8, 8, 8, 8, 8, 8, 8, 8, 8, 8, 8, 8, 8, 8, 8, 8, 8, 8, 8, 8, 8, 8, 8, 8, 8, 8, 8, 8, 8, 8, 8, 8, 8, 8, 8, 8, 8, 8, 8, 8, 8, 8, 8, 8, 8, 8, 8, 8, 8, 8, 8, 8, 8, 8, 8, 8, 8, 8, 8, 8, 8, 8, 8, 8, 8, 8, 8, 8, 8, 8, 8, 8, 8, 8, 8, 8, 8, 8, 8, 8, 8, 8, 8, 8, 8, 8, 8, 8, 8, 8, 8, 8]⟩ : ByteArray) (ji15)
       replace p18 := eq_true p18
       replace q18 := eq_true q18
       go_wp2
       go_ret
       exact ⟨by first | rfl | (simp; done) | (simp only [← hji15] <;> (first | rfl | simp)) | (simp [*]; done), by repeat (first | exact Drawn0.refl _ | apply Drawn0.step)⟩
      ·rw [if_neg c17] at H
       exact absurd H (by simp)
     ·rw [if_neg c16] at H
      exact absurd H (by simp)
    ·rw [if_neg c14] at H
     have c14b0 : decide (256 ≤ x0_1) = false := decide_eq_false c14
     clear c14
     obtain ⟨ji19, hji19⟩ : ∃ j_ : Int, ((x0_1) % 256) = j_ := ⟨_, rfl⟩
     replace H : (if 0 ≤ (ji19) then (if (ji19) < 256 then (some (wrap64 (x2_1 + (wrap64 (bt (⟨#[0, 1, 2, 2, 3, 3, 3, 3, 4, 4, 4, 4, 4, 4, 4, 4, 5, 5, 5, 5, 5, 5, 5, 5, 5, 5, 5, 5, 5, 5, 5, 5, 6, 6, 6, 6, 6, 6, 6, 6, 6, 6, 6, 6, 6, 6, 6, 6, 6, 6, 6, 6, 6, 6, 6, 6, 6, 6, 6, 6, 6, 6, 6, 6, 7, 7, 7, 7, 7, 7, 7, 7, 7, 7, 7, 7, 7, 7, 7, 7, 7, 7, 7, 7, 7, 7, 7, 7, 7, 7, 7, 7, 7, 7, 7, 7, 7, 7, 7, 7, 7, 7, 7, 7, 7, 7, 7, 7, 7, 7, 7, 7, 7, 7, 7, 7, 7, 7, 7, 7, 7, 7, 7, 7, 7, 7, 7, 7, 8, 8, 8, 8, 8, 8, 8, 8, 8, 8, 8, 8, 8, 8, 8, 8, 8, 8, 8, 8, 8, 8, 8, 8, 8, 8, 8, 8, 8, 8, 8, 8, 8, 8, 8, 8, 8, 8, 8, 8, 8, 8, 8, 8, 8, 8, 8, 8, 8, 8, 8, 8, 8, 8, 8, 8, 8, 8, 8, 8, 8, 8, 8, 8, 8, 8, 8, 8, 8, 8, 8, 8, 8, 8, 8, 8, 8, 8, 8, 8, 8, 8, 8, 8, 8, 8, 8, 8, 8, 8, 8, 8, 8, 8, 8, 8, 8, 8, 8, 8, 8, 8, 8, 8, 8, 8, 8, 8, 8, 8, 8, 8, 8, 8, 8, 8, 8, 8, 8, 8, 8, 8, 8, 8, 8, 8, 8, 8]⟩ : ByteArray) (ji19)))))) else (none)) else (none)) = some r := by first | (rw [hji19] at H; exact H) | (simp only [hji19] at H ⊢; exact H)
     by_cases c20 : 0 ≤ (ji19)
     ·rw [if_pos c20] at H
      have c20b0 : decide (0 ≤ (ji19)) = true := decide_eq_true c20
      clear c20
      by_cases c21 : (ji19) < 256
      ·rw [if_pos c21] at H
       have c21b0 : decide ((ji19) < 256) = true := decide_eq_true c21
       clear c21
       obtain rfl := Option.some.inj H
       have p22 : 0 ≤ ((ji19) : Int) := dT
       have q22 : (ji19) < (256 : Int) := dT
       have hx22 := bt_at (⟨#[0, 1, 2, 2, 3, 3, 3, 3, 4, 4, 4, 4, 4, 4, 4, 4, 5, 5, 5, 5, 5, 5, 5, 5, 5, 5, 5, 5, 5, 5, 5, 5, 6, 6, 6, 6, 6, 6, 6, 6, 6, 6, 6, 6, 6, 6, 6, 6, 6, 6, 6, 6, 6, 6, 6, 6, 6, 6, 6, 6, 6, 6, 6, 6, 7, 7, 7, 7, 7, 7, 7, 7, 7, 7, 7, 7, 7, 7, 7, 7, 7, 7, 7, 7, 7, 7, 7, 7, 7, 7, 7, 7, 7, 7, 7, 7, 7, 7, 7, 7, 7, 7, 7, 7, 7, 7, 7, 7, 7, 7, 7, 7, 7, 7, 7, 7, 7, 7, 7, 7, 7, 7, 7, 7, 7, 7, 7, 7, 8, 8, 8, 8, 8, 8, 8, 8, 8, 8, 8, 8, 8, 8, 8, 8, 8, 8, 8, 8, 8, 8, 8, 8, 8, 8, 8, 8, 8, 8, 8, 8, 8, 8, 8, 8, 8, 8, 8, 8, 8, 8, 8, 8, 8, 8, 8, 8, 8, 8, 8, 8, 8, 8, 8, 8, 8, 8, 8, 8, 8, 8, 8, 8, 8, 8, 8, 8, 8, 8, 8, 8, 8, 8, 8, 8, 8, 8, 8, 8, 8, 8, 8, 8, 8, 8, 8, 8, 8, 8, 8, 8, 8, 8, 8, 8, 8, 8, 8, 8, 8, 8, 8, 8, 8, 8, 8, 8, 8, 8, 8, 8, 8, 8, 8, 8, 8, 8, 8, 8, 8, 8, 8, 8, 8, 8, 8, 8]⟩ : ByteArray) (ji19)
       replace p22 := eq_true p22
       replace q22 := eq_true q22
       go_wp2
       go_ret
       exact ⟨by first | rfl | (simp; done) | (simp only [← hji19] <;> (first | rfl | simp)) | (simp [*]; done), by repeat (first | exact Drawn0.refl _ | apply Drawn0.step)⟩
      ·rw [if_neg c21] at H
       exact absurd H (by simp)
     ·rw [if_neg c20] at H
      exact absurd H (by simp)
def bits_Len.f (k : Nat) (a0 : Int) : Option (Int) := (bits_Len64.f k a0).bind fun t101 => (some t101)
theorem bits_Len.mono : ∀ a0 k, LeO (bits_Len.f k a0) (bits_Len.f (k + 1) a0) := by
 intro a0 k
 unfold bits_Len.f
 repeat' first
   | (with_reducible exact bits_Len64.mono _ _)
   | (with_reducible exact LeO.refl _)
   | (with_reducible exact LeO.none _)
   | (with_reducible refine LeO.ite ?_ ?_)
   | (with_reducible refine LeO.bind ?_ (fun _ => ?_))
   | exact bits_Len64.mono _ _
   | exact LeO.none _
   | refine LeO.ite ?_ ?_
   | refine LeO.bind ?_ (fun _ => ?_)
set_option maxHeartbeats 8000000 in
set_option maxRecDepth 100000 in
theorem bits_Len.calls (k : Nat) (a0 : Int) (r : Int) (w : World) (h : bits_Len.f k a0 = some r) :
  Calls Tryd.prog 65 #[.int .u64 a0] w fun e w' => e = .returned (.int .i64 r) ∧ Drawn0 w w' := by
 have H : ((bits_Len64.f k a0).bind fun t101 => (some t101)) = some r := h
 clear h
 obtain ⟨t101, A2, H⟩ := bi H
 obtain rfl := Option.some.inj H
 go_enter Tryd.func65, Tryd.ntmps65
 go_wp2_with (first | ((with_reducible refine gc 89 rfl ?_); refine gL 7 Tryd.func89 #[.int .u64 a0] ?_; (with_reducible refine (bits_Len64.calls k a0 t101 _ A2.out).mono ?_); rintro e w' ⟨rfl, ⟨nd, rfl⟩⟩; refine ⟨_, rfl, ?_⟩))
 go_ret
 exact ⟨by first | rfl | (simp; done) | (simp [*]; done), by repeat (first | exact Drawn0.refl _ | apply Drawn0.step)⟩
def tenter_Order_1_1.f (a0 : Int) (a1 : Int) (l2_0 : List Int) : Option (Int) := if 0 ≤ a0 then (if a0 < (l2_0.length : Int) then (if 0 ≤ a1 then (if a1 < (l2_0.length : Int) then (some (wrap64 ((rd l2_0 a0) - (rd l2_0 a1)))) else (none)) else (none)) else (none)) else (none)
set_option maxHeartbeats 8000000 in
set_option maxRecDepth 100000 in
theorem tenter_Order_1_1.calls (a0 : Int) (a1 : Int) (B2 : Nat) (A2_0 : Option Addr) (c2_0 : Nat) (l2_0 : List Int) (r : Int) (w : World) (hb2 : w.heap[B2]? = some (.cells #[.slice A2_0 l2_0.length c2_0] 30 (0, 0))) (hr2_0 : Kd.C (Kd.int .i64) w A2_0 l2_0.length l2_0) (hc2_0 : l2_0.length ≤ c2_0) (h : tenter_Order_1_1.f a0 a1 l2_0 = some r) :
  Calls Tryd.prog 53 #[.int .i64 a0, .int .i64 a1, .pointer (some ⟨B2, 0, none⟩)] w fun e w' => e = .returned (.int .i64 r) ∧ Drawn0 w w' := by
 have HR2_0 := Aside0.mk hr2_0
 have HC2_0 := Aside0.mk hc2_0
 clear hr2_0 hc2_0
 have BK2 := Aside0.mk hb2
 clear hb2
 have H : (if 0 ≤ a0 then (if a0 < (l2_0.length : Int) then (if 0 ≤ a1 then (if a1 < (l2_0.length : Int) then (some (wrap64 ((rd l2_0 a0) - (rd l2_0 a1)))) else (none)) else (none)) else (none)) else (none)) = some r := h
 clear h
 by_cases c4 : 0 ≤ a0
 ·rw [if_pos c4] at H
  have c4b0 : decide (0 ≤ a0) = true := decide_eq_true c4
  clear c4
  by_cases c5 : a0 < (l2_0.length : Int)
  ·rw [if_pos c5] at H
   have c5b0 : decide (a0 < (l2_0.length : Int)) = true := decide_eq_true c5
   clear c5
   by_cases c6 : 0 ≤ a1
   ·rw [if_pos c6] at H
    have c6b0 : decide (0 ≤ a1) = true := decide_eq_true c6
    clear c6
    by_cases c7 : a1 < (l2_0.length : Int)
    ·rw [if_pos c7] at H
     have c7b0 : decide (a1 < (l2_0.length : Int)) = true := decide_eq_true c7
     clear c7
     obtain rfl := Option.some.inj H
     obtain ⟨_, _⟩ := cf1 BK2
     have p101 : 0 ≤ (a0 : Int) := dT
     have q101 : a0 < (l2_0.length : Int) := dT
     obtain ⟨ad101, e101, hx101_0⟩ := Kd.at_int HR2_0.out a0 p101 q101
     cases e101
     replace p101 := eq_true p101
     replace q101 := eq_true q101
     have p102 : 0 ≤ (a1 : Int) := dT
     have q102 : a1 < (l2_0.length : Int) := dT
     obtain ⟨ad102, e102, hx102_0⟩ := Kd.at_int HR2_0.out a1 p102 q102
     obtain rfl : ad101 = ad102 := (by injection e102)
     replace p102 := eq_true p102
     replace q102 := eq_true q102
     go_enter Tryd.func53, Tryd.ntmps53
     go_wp2
     repeat (go_quiet (fail); try go_wp2)
     go_ret
     exact ⟨by first | rfl | (simp; done) | (simp [*]; done), by repeat (first | exact Drawn0.refl _ | apply Drawn0.step)⟩
    ·rw [if_neg c7] at H
     exact absurd H (by simp)
   ·rw [if_neg c6] at H
    exact absurd H (by simp)
  ·rw [if_neg c5] at H
   exact absurd H (by simp)
 ·rw [if_neg c4] at H
  exact absurd H (by simp)
mutual
def slices_insertionSortCmpFunc_int_at_tenter_Order_1_1.l0 : Nat → List Int → Int → Int → Int → List Int → Option (List Int)
 | 0, _, _, _, _, _ => none
 | k + 1, x0, x1, x2, x8, x69000 => if x8 < x2 then (slices_insertionSortCmpFunc_int_at_tenter_Order_1_1.l1 k x0 x1 x2 x8 x8 x69000) else (some x0)
def slices_insertionSortCmpFunc_int_at_tenter_Order_1_1.l1 : Nat → List Int → Int → Int → Int → Int → List Int → Option (List Int)
 | 0, _, _, _, _, _, _ => none
 | k + 1, x0, x1, x2, x8, x9, x69000 => if x9 > x1 then (if 0 ≤ x9 then (if x9 < (x0.length : Int) then (if 0 ≤ (wrap64 (x9 - 1)) then (if (wrap64 (x9 - 1)) < (x0.length : Int) then ((tenter_Order_1_1.f (rd x0 x9) (rd x0 (wrap64 (x9 - 1))) x69000).bind fun t103 => (if t103 < 0 then (slices_insertionSortCmpFunc_int_at_tenter_Order_1_1.l1 k ((x0.set (x9 : Int).toNat (rd x0 (wrap64 (x9 - 1)))).set ((wrap64 (x9 - 1)) : Int).toNat (rd x0 x9)) x1 x2 x8 (wrap64 (x9 - 1)) x69000) else (slices_insertionSortCmpFunc_int_at_tenter_Order_1_1.l0 k x0 x1 x2 (wrap64 (x8 + 1)) x69000))) else (none)) else (none)) else (none)) else (none)) else (slices_insertionSortCmpFunc_int_at_tenter_Order_1_1.l0 k x0 x1 x2 (wrap64 (x8 + 1)) x69000)
end
def slices_insertionSortCmpFunc_int_at_tenter_Order_1_1.f (k : Nat) (l0 : List Int) (a1 : Int) (a2 : Int) (l68_0 : List Int) : Option (List Int) := slices_insertionSortCmpFunc_int_at_tenter_Order_1_1.l0 k l0 a1 a2 (wrap64 (a1 + 1)) l68_0
theorem slices_insertionSortCmpFunc_int_at_tenter_Order_1_1.mono_l : ∀ k, (∀ y0 y1 y2 y3 y4, LeO (slices_insertionSortCmpFunc_int_at_tenter_Order_1_1.l0 k y0 y1 y2 y3 y4) (slices_insertionSortCmpFunc_int_at_tenter_Order_1_1.l0 (k + 1) y0 y1 y2 y3 y4)) ∧ (∀ y0 y1 y2 y3 y4 y5, LeO (slices_insertionSortCmpFunc_int_at_tenter_Order_1_1.l1 k y0 y1 y2 y3 y4 y5) (slices_insertionSortCmpFunc_int_at_tenter_Order_1_1.l1 (k + 1) y0 y1 y2 y3 y4 y5))
 | 0 => ⟨fun _ _ _ _ _ r h => by simp [slices_insertionSortCmpFunc_int_at_tenter_Order_1_1.l0] at h, fun _ _ _ _ _ _ r h => by simp [slices_insertionSortCmpFunc_int_at_tenter_Order_1_1.l1] at h⟩
 | k + 1 => by
  obtain ⟨ih0, ih1⟩ := slices_insertionSortCmpFunc_int_at_tenter_Order_1_1.mono_l k
  refine ⟨?_, ?_⟩
  ·intro y0 y1 y2 y3 y4
   unfold slices_insertionSortCmpFunc_int_at_tenter_Order_1_1.l0
   repeat' first
   | (with_reducible exact ih0 _ _ _ _ _)
   | (with_reducible exact ih1 _ _ _ _ _ _)
   | (with_reducible exact LeO.refl _)
   | (with_reducible exact LeO.none _)
   | (with_reducible refine LeO.ite ?_ ?_)
   | (with_reducible refine LeO.bind ?_ (fun _ => ?_))
   | exact ih0 _ _ _ _ _
   | exact ih1 _ _ _ _ _ _
   | exact LeO.none _
   | refine LeO.ite ?_ ?_
   | refine LeO.bind ?_ (fun _ => ?_)
  ·intro y0 y1 y2 y3 y4 y5
   unfold slices_insertionSortCmpFunc_int_at_tenter_Order_1_1.l1
   repeat' first
   | (with_reducible exact ih0 _ _ _ _ _)
   | (with_reducible exact ih1 _ _ _ _ _ _)
   | (with_reducible exact LeO.refl _)
   | (with_reducible exact LeO.none _)
   | (with_reducible refine LeO.ite ?_ ?_)
   | (with_reducible refine LeO.bind ?_ (fun _ => ?_))
   | exact ih0 _ _ _ _ _
   | exact ih1 _ _ _ _ _ _
   | exact LeO.none _
   | refine LeO.ite ?_ ?_
   | refine LeO.bind ?_ (fun _ => ?_)
theorem slices_insertionSortCmpFunc_int_at_tenter_Order_1_1.mono : ∀ a0 a1 a2 a3 k, LeO (slices_insertionSortCmpFunc_int_at_tenter_Order_1_1.f k a0 a1 a2 a3) (slices_insertionSortCmpFunc_int_at_tenter_Order_1_1.f (k + 1) a0 a1 a2 a3) := by
 intro a0 a1 a2 a3 k
 obtain ⟨ih0, ih1⟩ := slices_insertionSortCmpFunc_int_at_tenter_Order_1_1.mono_l k
 unfold slices_insertionSortCmpFunc_int_at_tenter_Order_1_1.f
 repeat' first
   | (with_reducible exact ih0 _ _ _ _ _)
   | (with_reducible exact ih1 _ _ _ _ _ _)
   | (with_reducible exact LeO.refl _)
   | (with_reducible exact LeO.none _)
   | (with_reducible refine LeO.ite ?_ ?_)
   | (with_reducible refine LeO.bind ?_ (fun _ => ?_))
   | exact ih0 _ _ _ _ _
   | exact ih1 _ _ _ _ _ _
   | exact LeO.none _
   | refine LeO.ite ?_ ?_
   | refine LeO.bind ?_ (fun _ => ?_)
def slices_insertionSortCmpFunc_int_at_tenter_Order_1_1.T4 : Bool × List (List Nat × List Nat) := (true, [([], []), ([], []), ([0, 1], [0, 1]), ([2], [2]), ([3], [3]), ([3], [3]), ([3], [3]), ([5, 6, 3], [3, 5, 6]), ([7, 3], [3, 7]), ([3], [3]), ([3], [3]), ([10, 3], [3, 10]), ([9, 11, 3], [3, 9, 11]), ([12, 3], [3, 12]), ([4, 8, 13, 3, 3], [3, 4, 8, 13]), ([14, 3], [3, 14]), ([3, 15], [3, 15])])
def slices_insertionSortCmpFunc_int_at_tenter_Order_1_1.B4 : List Nat := [0, 0, 3, 7, 15, 15, 15, 111, 239, 15, 15, 1039, 3599, 7695, 16383, 32767, 65535]
theorem slices_insertionSortCmpFunc_int_at_tenter_Order_1_1.tab4 : rtab .any (opsOf Tryd.f91 4) = slices_insertionSortCmpFunc_int_at_tenter_Order_1_1.T4 := by kernel_rfl
theorem slices_insertionSortCmpFunc_int_at_tenter_Order_1_1.bits4 : waitsOk slices_insertionSortCmpFunc_int_at_tenter_Order_1_1.T4.2 slices_insertionSortCmpFunc_int_at_tenter_Order_1_1.B4 = true := by kernel_rfl
def slices_insertionSortCmpFunc_int_at_tenter_Order_1_1.T6 : Bool × List (List Nat × List Nat) := (true, [([], []), ([], []), ([], []), ([], []), ([3], [3]), ([], []), ([], []), ([6], [6]), ([5, 7], [5, 7]), ([8], [8]), ([], []), ([], []), ([10, 11], [10, 11]), ([12], [12]), ([0, 1, 0, 1, 5, 6, 7, 8, 9, 13], [0, 1]), ([14, 9, 0, 1, 5, 6, 7, 8, 9, 13], [9, 14]), ([2, 4, 0, 1, 2, 3, 4, 5, 6, 7, 8, 9, 10, 11, 12, 13, 14, 15], [2, 4]), ([16, 13, 15, 0, 1, 2, 3, 4, 5, 6, 7, 8, 9, 10, 11, 12, 13, 14, 15], [13, 16])])
def slices_insertionSortCmpFunc_int_at_tenter_Order_1_1.B6 : List Nat := [0, 0, 0, 0, 8, 0, 0, 64, 224, 480, 0, 0, 3072, 7168, 16355, 32739, 65535, 131071]
theorem slices_insertionSortCmpFunc_int_at_tenter_Order_1_1.tab6 : rtab .any (opsOf Tryd.f91 6) = slices_insertionSortCmpFunc_int_at_tenter_Order_1_1.T6 := by kernel_rfl
theorem slices_insertionSortCmpFunc_int_at_tenter_Order_1_1.bits6 : waitsOk slices_insertionSortCmpFunc_int_at_tenter_Order_1_1.T6.2 slices_insertionSortCmpFunc_int_at_tenter_Order_1_1.B6 = true := by kernel_rfl
set_option maxHeartbeats 8000000 in
set_option maxRecDepth 100000 in
theorem slices_insertionSortCmpFunc_int_at_tenter_Order_1_1.calls (k : Nat) (P0_ : Nat → Prop) (u9000_ : Value) (l0 : List Int) (a1 : Int) (a2 : Int) (B68 : Nat) (A68_0 : Option Addr) (c68_0 : Nat) (l68_0 : List Int) (r : List Int) (w0 w : World) (hB : Below w0.heap.size w0 w) (ho0 : Kd.R (Kd.int .i64) 3 w w0.heap.size P0_ u9000_ l0) (hb68 : w.heap[B68]? = some (.cells #[.slice A68_0 l68_0.length c68_0] 30 (0, 0))) (hr68_0 : ∀ W_, Kept w W_ (fun k_ => P0_ k_) → Kd.C (Kd.int .i64) W_ A68_0 l68_0.length l68_0) (hc68_0 : l68_0.length ≤ c68_0) (np0_68 : ¬ P0_ B68) (h : slices_insertionSortCmpFunc_int_at_tenter_Order_1_1.f k l0 a1 a2 l68_0 = some r) :
  Calls Tryd.prog 91 #[u9000_, .int .i64 a1, .int .i64 a2, .func (.func 53) #[] #[.pointer (some ⟨B68, 0, none⟩)]] w fun e w' => e = .returned (.tuple #[]) ∧ Kd.R (Kd.int .i64) 3 w' w0.heap.size (fun k_ => (P0_ k_ ∨ w.heap.size ≤ k_)) u9000_ r ∧ Below w0.heap.size w0 w' ∧ Kept w w' (fun k_ => P0_ k_) := by
 have HO0 := Aside0.mk (show Kd.R (Kd.int .i64) 3 w w0.heap.size (fun k_ => (P0_ k_ ∨ w.heap.size ≤ k_)) u9000_ l0 from Kd.R_mono ho0 (fun k_ hk => (.inl hk)))
 have HR68_0 := Aside0.mk hr68_0
 have HC68_0 := Aside0.mk hc68_0
 clear hr68_0 hc68_0
 have GL68 := Aside0.mk (blk_lt hb68)
 have NP68 := Aside0.mk np0_68
 clear np0_68
 have BK68 := Aside0.mk hb68
 clear hb68
 have HK := Aside0.mk (Kept.refl w (fun k_ => P0_ k_))
 have HW0 := Aside0.mk hB.size
 have HB := Aside0.mk hB
 clear hB
 have H : (slices_insertionSortCmpFunc_int_at_tenter_Order_1_1.l0 k l0 a1 a2 (wrap64 (a1 + 1)) l68_0) = some r := h
 clear h
 have H' := Aside0.mk H
 clear H
 go_enter Tryd.func91, Tryd.ntmps91
 go_wp2
 (try simp only [Act.put, List.setIfInBounds_toArray, List.set_cons_zero, List.set_cons_succ])
 go_loopg [8] k (fun kq v8 w' => ∃ (x0_1 : List Int) (x8_1 : Int), v8 = .int .i64 x8_1 ∧ Aside0 (slices_insertionSortCmpFunc_int_at_tenter_Order_1_1.l0 kq x0_1 a1 a2 x8_1 l68_0 = some r) ∧ Aside0 (kq ≤ k) ∧ Aside0 (Kd.R (Kd.int .i64) 3 w' w0.heap.size (fun k_ => (P0_ k_ ∨ w.heap.size ≤ k_)) u9000_ x0_1) ∧ Aside0 (w'.heap[B68]? = some (.cells #[(.slice A68_0 l68_0.length c68_0)] 30 (0, 0))) ∧ Aside0 (Kept w w' (fun k_ => P0_ k_)) ∧ Aside0 (Below w0.heap.size w0 w'))
 case atStart => exact ⟨(l0), (wrap64 (a1 + 1)), (by first | rfl | (simp; done) | (simp [*]; done)), H', ⟨Nat.le_refl _⟩, ⟨by (with_reducible repeat (first | apply Kd.R_alloc | apply Kd.R_drewN | apply Kd.R_drew)); exact HO0.out⟩, ⟨by (with_reducible repeat (first | refine blk_drewN ?_ _ | refine blk_drew ?_ | refine blk_alloc ?_ _)); exact BK68.out⟩, ⟨by repeat (first | (with_reducible first | exact HK.out | apply Kept.alloc | apply Kept.drewN | apply Kept.drew | refine Kept.setCell ?_ (.inr GW68.out) _) | exact HK.out)⟩, ⟨pE HB⟩⟩
 case round =>
  clear H'
  try clear p2
  obtain ⟨x0_1, x8_1, rfl, HA, HK1, HO_0, BK68, HK, HB⟩ := hrel
  cases gk with
  | zero => exact absurd HA.out (by simp [slices_insertionSortCmpFunc_int_at_tenter_Order_1_1.l0])
  | succ k1 =>
   have H := HA.out
   clear HA
   simp only [slices_insertionSortCmpFunc_int_at_tenter_Order_1_1.l0] at H
   by_cases c5 : x8_1 < a2
   ·rw [if_pos c5] at H
    have c5b0 : decide (x8_1 < a2) = true := decide_eq_true c5
    clear c5
    have H' := Aside0.mk H
    clear H
    go_wp2
    (try simp only [Act.put, List.setIfInBounds_toArray, List.set_cons_zero, List.set_cons_succ])
    go_loopg [9] k1 (fun kq v9 w' => ∃ (x0_2 : List Int) (x9_2 : Int), v9 = .int .i64 x9_2 ∧ Aside0 (slices_insertionSortCmpFunc_int_at_tenter_Order_1_1.l1 kq x0_2 a1 a2 x8_1 x9_2 l68_0 = some r) ∧ Aside0 (kq ≤ k1) ∧ Aside0 (Kd.R (Kd.int .i64) 3 w' w0.heap.size (fun k_ => (P0_ k_ ∨ w.heap.size ≤ k_)) u9000_ x0_2) ∧ Aside0 (w'.heap[B68]? = some (.cells #[(.slice A68_0 l68_0.length c68_0)] 30 (0, 0))) ∧ Aside0 (Kept w w' (fun k_ => P0_ k_)) ∧ Aside0 (Below w0.heap.size w0 w'))
    case atStart => exact ⟨(x0_1), (x8_1), (by first | rfl | (simp; done) | (simp [*]; done)), H', ⟨Nat.le_refl _⟩, ⟨by (with_reducible repeat (first | apply Kd.R_alloc | apply Kd.R_drewN | apply Kd.R_drew)); exact HO_0.out⟩, ⟨by (with_reducible repeat (first | refine blk_drewN ?_ _ | refine blk_drew ?_ | refine blk_alloc ?_ _)); exact BK68.out⟩, ⟨by repeat (first | (with_reducible first | exact HK.out | apply Kept.alloc | apply Kept.drewN | apply Kept.drew | refine Kept.setCell ?_ (.inr GW68.out) _) | exact HK.out)⟩, ⟨pE HB⟩⟩
    case round =>
     clear H'
     try clear p2
     try clear c5
     try clear c5b0
     try clear p2
     obtain ⟨x0_2, x9_2, rfl, HA, HK2, HO_0, BK68, HK, HB⟩ := hrel
     cases gk with
     | zero => exact absurd HA.out (by simp [slices_insertionSortCmpFunc_int_at_tenter_Order_1_1.l1])
     | succ k2 =>
      have H := HA.out
      clear HA
      simp only [slices_insertionSortCmpFunc_int_at_tenter_Order_1_1.l1] at H
      by_cases c6 : x9_2 > a1
      ·rw [if_pos c6] at H
       have c6b0 : decide (a1 < x9_2) = true := decide_eq_true c6
       clear c6
       by_cases c7 : 0 ≤ x9_2
       ·rw [if_pos c7] at H
        have c7b0 : decide (0 ≤ x9_2) = true := decide_eq_true c7
        clear c7
        by_cases c8 : x9_2 < (x0_2.length : Int)
        ·rw [if_pos c8] at H
         have c8b0 : decide (x9_2 < (x0_2.length : Int)) = true := decide_eq_true c8
         clear c8
         obtain ⟨ji9, hji9⟩ : ∃ j_ : Int, (wrap64 (x9_2 - 1)) = j_ := ⟨_, rfl⟩
         replace H : (if 0 ≤ (ji9) then (if (ji9) < (x0_2.length : Int) then ((tenter_Order_1_1.f (rd x0_2 x9_2) (rd x0_2 (ji9)) l68_0).bind fun t103 => (if t103 < 0 then (slices_insertionSortCmpFunc_int_at_tenter_Order_1_1.l1 k2 ((x0_2.set (x9_2 : Int).toNat (rd x0_2 (ji9))).set ((ji9) : Int).toNat (rd x0_2 x9_2)) a1 a2 x8_1 ji9 l68_0) else (slices_insertionSortCmpFunc_int_at_tenter_Order_1_1.l0 k2 x0_2 a1 a2 (wrap64 (x8_1 + 1)) l68_0))) else (none)) else (none)) = some r := by first | (rw [hji9] at H; exact H) | (simp only [hji9] at H ⊢; exact H)
         have hji9w : (IntKind.i64.wrap (x9_2 - 1)) = ji9 := (i64_w _).trans hji9
         by_cases c10 : 0 ≤ (ji9)
         ·rw [if_pos c10] at H
          have c10b0 : decide (0 ≤ (ji9)) = true := decide_eq_true c10
          clear c10
          by_cases c11 : (ji9) < (x0_2.length : Int)
          ·rw [if_pos c11] at H
           have c11b0 : decide ((ji9) < (x0_2.length : Int)) = true := decide_eq_true c11
           clear c11
           obtain ⟨t103, A12, H⟩ := bi H
           by_cases c13 : t103 < 0
           ·rw [if_pos c13] at H
            have c13b0 : decide (t103 < 0) = true := decide_eq_true c13
            clear c13
            obtain ⟨y106, hy106⟩ : ∃ y_ : List Int, y_ = (x0_2.set (x9_2 : Int).toNat (rd x0_2 (ji9))) := ⟨_, rfl⟩
            replace H : (slices_insertionSortCmpFunc_int_at_tenter_Order_1_1.l1 k2 (y106.set ((ji9) : Int).toNat (rd x0_2 x9_2)) a1 a2 x8_1 ji9 l68_0) = some r := yy hy106 H
            have Ny106 := Aside0.mk hy106
            clear hy106
            obtain ⟨y107, hy107⟩ : ∃ y_ : List Int, y_ = (y106.set ((ji9) : Int).toNat (rd x0_2 x9_2)) := ⟨_, rfl⟩
            replace H : (slices_insertionSortCmpFunc_int_at_tenter_Order_1_1.l1 k2 y107 a1 a2 x8_1 ji9 l68_0) = some r := yy hy107 H
            have Ny107 := Aside0.mk hy107
            clear hy107
            have H' := Aside0.mk H
            clear H
            try go_wp2
            replace HO_0 := Aside0.mk (Kd.R_drew HO_0.out)
            replace BK68 := Aside0.mk (blk_drew BK68.out)
            replace HK := Aside0.mk (Kept.drew HK.out)
            replace HB := Aside0.mk (below_drew1 HB.out)
            obtain ⟨Ao17, co17, eo17⟩ := Kd.R_slice HO_0.out
            (first | subst eo17 | (injection eo17 with f1_ f2_ f3_; have f4_ := f1_.symm; have f5_ := f3_.symm; clear f1_ f2_ f3_; subst f4_; subst f5_))
            have p101 : 0 ≤ (x9_2 : Int) := dT
            have q101 : x9_2 < (x0_2.length : Int) := dT
            obtain ⟨ad101, e101, hx101_0⟩ := Kd.at_int (Kd.R_reads' HO_0.out).2.2 x9_2 p101 q101
            cases e101
            replace p101 := eq_true p101
            replace q101 := eq_true q101
            have p102 : 0 ≤ ((ji9) : Int) := dT
            have q102 : (ji9) < (x0_2.length : Int) := dT
            obtain ⟨ad102, e102, hx102_0⟩ := Kd.at_int (Kd.R_reads' HO_0.out).2.2 (ji9) p102 q102
            obtain rfl : ad101 = ad102 := (by injection e102)
            replace p102 := eq_true p102
            replace q102 := eq_true q102
            refine start_ (n := 17) (S := fun w' => w'.cell? (ad101.add (x9_2).toNat) = some (.int .i64 (rd x0_2 x9_2)) ∧ w'.cell? (ad101.add ((ji9)).toNat) = some (.int .i64 (rd x0_2 (ji9)))) (ds := []) #[false, false, false, false, false, false, false, false, false, false, false, false, false, false, false, false, false] (by kernel_rfl) rfl rfl ⟨hx101_0, hx102_0⟩ (fun hHeld => ?_); refine with_tabW slices_insertionSortCmpFunc_int_at_tenter_Order_1_1.tab4 slices_insertionSortCmpFunc_int_at_tenter_Order_1_1.bits4 (fun HT_ HW_ => ?_)
            generalize wr.drew = w16 at HO_0 BK68 HK HB hx101_0 hx102_0 hHeld ⊢
            refine pu 0 18 ?_
            refine pu 1 19 ?_
            refine pu 2 20 ?_
            refine pu 3 21 ?_
            refine pu 4 22 ?_
            refine pu 5 23 ?_
            refine pu 6 24 ?_
            refine pu 7 25 ?_
            refine pu 9 27 ?_
            refine pu 10 28 ?_
            refine pu 11 29 ?_
            refine pu 12 30 ?_
            refine tk 8 26 hHeld ?_
            refine tk 13 31 hHeld ?_
            refine on 14 (fun K hK => ?_)
            refine goesV_ Tryd.func53 (by kernel_rfl) rfl #[.int .i64 (rd x0_2 x9_2), .int .i64 (rd x0_2 (ji9)), .pointer (some ⟨B68, 0, none⟩)] (by rfl) rfl rfl rfl (by (try simp only [List.map_toArray, List.map_cons, List.map_nil]); first | done | (simp only [hji9]; rfl) | rfl | (simp only [List.length_drop, List.length_take]; rfl)) ?_
            with_reducible refine (tenter_Order_1_1.calls (rd x0_2 x9_2) (rd x0_2 (ji9)) B68 A68_0 c68_0 l68_0 t103 _ ?side1 ?side2 ?side3 A12.out).mono ?_
            (case side1 => exact pB BK68.out)
            (case side2 => exact Kd.C_kept_now HR68_0.out (by repeat (first | (with_reducible first | exact HK.out | apply Kept.alloc | apply Kept.drewN | apply Kept.drew | refine Kept.setCell ?_ (.inr GW68.out) _) | exact HK.out)))
            (case side3 => exact HC68_0.out)
            rintro e w' ⟨rfl, ⟨nd, rfl⟩⟩
            refine ⟨_, rfl, ?_⟩
            refine hK.out _ _ ⟨hHeld.1, hHeld.2⟩ (fun hHeld => ?_)
            clear hK K
            refine norm_ (a' := ?_) ?_ ?_
            rotate_left
            ·show Act.put _ (some 32) _ = _
             simp only [Act.put, List.setIfInBounds_toArray, List.set_cons_zero, List.set_cons_succ, i64_w, i32_w]
             rfl
            refine pu 15 33 ?_
            refine pu 16 34 ?_
            refine done_ (done_of HT_.out (by kernel_rfl)) ?_
            try go_wp2
            (try (rw [drewN_self w16]; generalize hq_ : World.drewN w16 _ = w16; have n0_ : Aside0 (Kd.R (Kd.int .i64) 3 w16 w0.heap.size (fun k_ => (P0_ k_ ∨ w.heap.size ≤ k_)) (.slice (some ad101) x0_2.length co17) x0_2) := ⟨by rw [← hq_]; exact (pR HO_0.out)⟩; have n1_ : Aside0 (w16.heap[B68]? = some (.cells #[.slice A68_0 l68_0.length c68_0] 30 (0, 0))) := ⟨by rw [← hq_]; exact (pB BK68.out)⟩; have n2_ : Aside0 (Kept w w16 (fun k_ => P0_ k_)) := ⟨by rw [← hq_]; exact (by repeat (first | (with_reducible first | exact HK.out | apply Kept.alloc | apply Kept.drewN | apply Kept.drew | refine Kept.setCell ?_ (.inr GW68.out) _) | exact HK.out))⟩; have n3_ : Aside0 (Below w0.heap.size w0 w16) := ⟨by rw [← hq_]; exact (pE HB)⟩; clear HO_0 BK68 HK HB hq_; have HO_0 := n0_; have BK68 := n1_; have HK := n2_; have HB := n3_; clear n0_ n1_ n2_ n3_))
            replace HO_0 := Aside0.mk (Kd.R_drew HO_0.out)
            replace BK68 := Aside0.mk (blk_drew BK68.out)
            replace HK := Aside0.mk (Kept.drew HK.out)
            replace HB := Aside0.mk (below_drew1 HB.out)
            have p104 : 0 ≤ ((ji9) : Int) := dT
            have q104 : (ji9) < (x0_2.length : Int) := dT
            obtain ⟨ad104, e104, hx104_0⟩ := Kd.at_int (Kd.R_reads' HO_0.out).2.2 (ji9) p104 q104
            obtain rfl : ad101 = ad104 := (by injection e104)
            replace p104 := eq_true p104
            replace q104 := eq_true q104
            have p105 : 0 ≤ (x9_2 : Int) := dT
            have q105 : x9_2 < (x0_2.length : Int) := dT
            obtain ⟨ad105, e105, hx105_0⟩ := Kd.at_int (Kd.R_reads' HO_0.out).2.2 x9_2 p105 q105
            obtain rfl : ad101 = ad105 := (by injection e105)
            replace p105 := eq_true p105
            replace q105 := eq_true q105
            have p14 : 0 ≤ (x9_2 : Int) := dT
            have q14 : (x9_2 : Int) < ((x0_2.length : Int) : Int) := dT
            obtain ⟨go14, co14, eo14, gb14, gl14, cl14, HG14⟩ := Kd.R_form HO_0.out (by omega)
            (first | cases eo14 | (injection eo14 with ea_ en_ ec_; (first | subst ea_ | (injection ea_ with ea_; subst ea_)); subst ec_; clear en_))
            have GB14 := Aside0.mk gb14
            have GG14 := Aside0.mk HG14
            clear gb14 gl14 HG14
            have HMgo14 := Aside0.mk (show (P0_ go14 ∨ w.heap.size ≤ go14) from (HO_0.out.1 _ rfl))
            (first | simp only [add_plain] at hx101_0 | skip)
            (first | simp only [add_plain] at hx102_0 | skip)
            (first | simp only [add_plain] at hx104_0 | skip)
            (first | simp only [add_plain] at hx105_0 | skip)
            obtain ⟨hx14_0, hf14_0⟩ := Kd.R_celln 0 HO_0.out (x9_2 : Int) p14 q14
            replace p14 := eq_true p14
            replace q14 := eq_true q14
            have HP19 := Kd.R_putn HO_0.out (x9_2 : Int) (rd x0_2 (ji9))
            rw [← Ny106.out] at HP19
            have HQ19 := Aside0.mk HP19
            clear HP19
            have p15 : 0 ≤ ((ji9) : Int) := dT
            have q15 : ((ji9) : Int) < ((x0_2.length : Int) : Int) := dT
            obtain ⟨hx15_0, hf15_0⟩ := Kd.R_celln 0 HQ19.out ((ji9) : Int) p15 q15
            replace p15 := eq_true p15
            replace q15 := eq_true q15
            have HP20 := Kd.R_putn HQ19.out ((ji9) : Int) (rd x0_2 x9_2)
            rw [← Ny107.out] at HP20
            have HQ20 := Aside0.mk HP20
            clear HP20
            refine start_ (n := 18) (S := fun w' => w'.cell? ⟨go14, ((ji9)).toNat, none⟩ = some (.int .i64 (rd x0_2 (ji9))) ∧ w'.cell? ⟨go14, (x9_2).toNat, none⟩ = some (.int .i64 (rd x0_2 x9_2))) (ds := [15, 17]) #[false, false, false, false, false, false, false, false, false, false, false, false, false, false, false, false, false, false] (by kernel_rfl) rfl rfl ⟨hx104_0, hx105_0⟩ (fun hHeld => ?_); refine with_tabW slices_insertionSortCmpFunc_int_at_tenter_Order_1_1.tab6 slices_insertionSortCmpFunc_int_at_tenter_Order_1_1.bits6 (fun HT_ HW_ => ?_)
            generalize w16.drew = w18 at HO_0 BK68 HK HB GG14 HQ19 HQ20 hf14_0 hf15_0 hx101_0 hx102_0 hx104_0 hx105_0 hx14_0 hx15_0 hHeld ⊢
            refine pu 0 37 ?_
            refine pu 1 38 ?_
            refine pu 2 39 ?_
            refine pu 3 40 ?_
            refine pu 4 41 ?_
            refine pu 5 42 ?_
            refine pu 6 43 ?_
            refine pu 7 44 ?_
            refine pu 8 45 ?_
            refine pu 10 47 ?_
            refine pu 11 48 ?_
            refine pu 12 49 ?_
            refine tk 9 46 hHeld ?_
            refine tk 13 50 hHeld ?_
            refine pu 14 51 ?_
            refine last_ (i := 15) (N := none) #[true, true, true, true, true, true, true, true, true, true, true, true, true, true, true, true, false, false] rfl rfl (one_of HT_.out (by kernel_rfl)) (by decide) (fun K hK => ?_)
            refine skip_ (w1 := ?_) (by rfl) rfl ?_ ?_
            rotate_left
            ·go_simp
             rfl
            refine hK.out _ _ ?_
            clear hK K
            refine pu 16 52 ?_
            refine last_ (i := 17) (N := none) #[true, true, true, true, true, true, true, true, true, true, true, true, true, true, true, true, true, true] rfl rfl (one_of HT_.out (by kernel_rfl)) (by decide) (fun K hK => ?_)
            refine skip_ (w1 := ?_) (by rfl) rfl ?_ ?_
            rotate_left
            ·go_simp
             rfl
            refine hK.out _ _ ?_
            clear hK K
            refine done_ (done_of HT_.out (by kernel_rfl)) ?_
            try go_wp2
            go_roundg k2
            case measure => have := HK1.out; have := HK2.out; omega
            case rel => exact ⟨(y107), (ji9), (by first | rfl | (simp; done) | (simp only [← hji9] <;> (first | rfl | simp)) | (simp [*]; done)), H', ⟨by have := HK1.out; have := HK2.out; omega⟩, ⟨by (with_reducible repeat (first | apply Kd.R_alloc | apply Kd.R_drewN | apply Kd.R_drew)); exact HQ20.out⟩, ⟨by refine pB ?_; refine blk_far ?_ (by have h_ := Kd.R_ne HO_0.out BK68.out (by decide); intro e_; exact h_ (by rw [e_]; rfl)) _; refine pB ?_; refine blk_far ?_ (by have h_ := Kd.R_ne HO_0.out BK68.out (by decide); intro e_; exact h_ (by rw [e_]; rfl)) _; (with_reducible repeat (first | refine blk_drewN ?_ _ | refine blk_drew ?_ | refine blk_alloc ?_ _)); exact BK68.out⟩, ⟨by repeat (first | (with_reducible first | exact HK.out | apply Kept.alloc | apply Kept.drewN | apply Kept.drew | refine Kept.setCell ?_ HMgo14.out _ | refine Kept.setCell ?_ HMgo14.out _ | refine Kept.setCell ?_ (.inr GW68.out) _) | exact HK.out)⟩, ⟨pE HB⟩⟩
           ·rw [if_neg c13] at H
            have c13b0 : decide (t103 < 0) = false := decide_eq_false c13
            clear c13
            have H' := Aside0.mk H
            clear H
            try go_wp2
            replace HO_0 := Aside0.mk (Kd.R_drew HO_0.out)
            replace BK68 := Aside0.mk (blk_drew BK68.out)
            replace HK := Aside0.mk (Kept.drew HK.out)
            replace HB := Aside0.mk (below_drew1 HB.out)
            obtain ⟨Ao22, co22, eo22⟩ := Kd.R_slice HO_0.out
            (first | subst eo22 | (injection eo22 with f1_ f2_ f3_; have f4_ := f1_.symm; have f5_ := f3_.symm; clear f1_ f2_ f3_; subst f4_; subst f5_))
            have p101 : 0 ≤ (x9_2 : Int) := dT
            have q101 : x9_2 < (x0_2.length : Int) := dT
            obtain ⟨ad101, e101, hx101_0⟩ := Kd.at_int (Kd.R_reads' HO_0.out).2.2 x9_2 p101 q101
            cases e101
            replace p101 := eq_true p101
            replace q101 := eq_true q101
            have p102 : 0 ≤ ((ji9) : Int) := dT
            have q102 : (ji9) < (x0_2.length : Int) := dT
            obtain ⟨ad102, e102, hx102_0⟩ := Kd.at_int (Kd.R_reads' HO_0.out).2.2 (ji9) p102 q102
            obtain rfl : ad101 = ad102 := (by injection e102)
            replace p102 := eq_true p102
            replace q102 := eq_true q102
            refine start_ (n := 17) (S := fun w' => w'.cell? (ad101.add (x9_2).toNat) = some (.int .i64 (rd x0_2 x9_2)) ∧ w'.cell? (ad101.add ((ji9)).toNat) = some (.int .i64 (rd x0_2 (ji9)))) (ds := []) #[false, false, false, false, false, false, false, false, false, false, false, false, false, false, false, false, false] (by kernel_rfl) rfl rfl ⟨hx101_0, hx102_0⟩ (fun hHeld => ?_); refine with_tabW slices_insertionSortCmpFunc_int_at_tenter_Order_1_1.tab4 slices_insertionSortCmpFunc_int_at_tenter_Order_1_1.bits4 (fun HT_ HW_ => ?_)
            generalize wr.drew = w21 at HO_0 BK68 HK HB hx101_0 hx102_0 hHeld ⊢
            refine pu 0 18 ?_
            refine pu 1 19 ?_
            refine pu 2 20 ?_
            refine pu 3 21 ?_
            refine pu 4 22 ?_
            refine pu 5 23 ?_
            refine pu 6 24 ?_
            refine pu 7 25 ?_
            refine pu 9 27 ?_
            refine pu 10 28 ?_
            refine pu 11 29 ?_
            refine pu 12 30 ?_
            refine tk 8 26 hHeld ?_
            refine tk 13 31 hHeld ?_
            refine on 14 (fun K hK => ?_)
            refine goesV_ Tryd.func53 (by kernel_rfl) rfl #[.int .i64 (rd x0_2 x9_2), .int .i64 (rd x0_2 (ji9)), .pointer (some ⟨B68, 0, none⟩)] (by rfl) rfl rfl rfl (by (try simp only [List.map_toArray, List.map_cons, List.map_nil]); first | done | (simp only [hji9]; rfl) | rfl | (simp only [List.length_drop, List.length_take]; rfl)) ?_
            with_reducible refine (tenter_Order_1_1.calls (rd x0_2 x9_2) (rd x0_2 (ji9)) B68 A68_0 c68_0 l68_0 t103 _ ?side1 ?side2 ?side3 A12.out).mono ?_
            (case side1 => exact pB BK68.out)
            (case side2 => exact Kd.C_kept_now HR68_0.out (by repeat (first | (with_reducible first | exact HK.out | apply Kept.alloc | apply Kept.drewN | apply Kept.drew | refine Kept.setCell ?_ (.inr GW68.out) _) | exact HK.out)))
            (case side3 => exact HC68_0.out)
            rintro e w' ⟨rfl, ⟨nd, rfl⟩⟩
            refine ⟨_, rfl, ?_⟩
            refine hK.out _ _ ⟨hHeld.1, hHeld.2⟩ (fun hHeld => ?_)
            clear hK K
            refine norm_ (a' := ?_) ?_ ?_
            rotate_left
            ·show Act.put _ (some 32) _ = _
             simp only [Act.put, List.setIfInBounds_toArray, List.set_cons_zero, List.set_cons_succ, i64_w, i32_w]
             rfl
            refine pu 15 33 ?_
            refine pu 16 34 ?_
            refine done_ (done_of HT_.out (by kernel_rfl)) ?_
            try go_wp2
            go_roundg k2
            case measure => have := HK1.out; have := HK2.out; omega
            case rel => exact ⟨(x0_2), (wrap64 (x8_1 + 1)), (by first | rfl | (simp; done) | (simp [*]; done)), H', ⟨by have := HK1.out; have := HK2.out; omega⟩, ⟨by (with_reducible repeat (first | apply Kd.R_alloc | apply Kd.R_drewN | apply Kd.R_drew)); exact HO_0.out⟩, ⟨by (with_reducible repeat (first | refine blk_drewN ?_ _ | refine blk_drew ?_ | refine blk_alloc ?_ _)); exact BK68.out⟩, ⟨by repeat (first | (with_reducible first | exact HK.out | apply Kept.alloc | apply Kept.drewN | apply Kept.drew | refine Kept.setCell ?_ (.inr GW68.out) _) | exact HK.out)⟩, ⟨pE HB⟩⟩
          ·rw [if_neg c11] at H
           exact absurd H (by simp)
         ·rw [if_neg c10] at H
          exact absurd H (by simp)
        ·rw [if_neg c8] at H
         exact absurd H (by simp)
       ·rw [if_neg c7] at H
        exact absurd H (by simp)
      ·rw [if_neg c6] at H
       have c6b0 : decide (a1 < x9_2) = false := decide_eq_false c6
       clear c6
       have H' := Aside0.mk H
       clear H
       try go_wp2
       replace HO_0 := Aside0.mk (Kd.R_drew HO_0.out)
       replace BK68 := Aside0.mk (blk_drew BK68.out)
       replace HK := Aside0.mk (Kept.drew HK.out)
       replace HB := Aside0.mk (below_drew1 HB.out)
       refine start_ (n := 17) (S := fun w' => True) (ds := []) #[false, false, false, false, false, false, false, false, false, false, false, false, false, false, false, false, false] (by kernel_rfl) rfl rfl trivial (fun hHeld => ?_); refine with_tabW slices_insertionSortCmpFunc_int_at_tenter_Order_1_1.tab4 slices_insertionSortCmpFunc_int_at_tenter_Order_1_1.bits4 (fun HT_ HW_ => ?_)
       generalize wr.drew = w23 at HO_0 BK68 HK HB hHeld ⊢
       refine pu 0 18 ?_
       refine pu 1 19 ?_
       refine pu 2 20 ?_
       refine pu 3 21 ?_
       refine pd 4 22 ?_
       refine pd 5 23 ?_
       refine pd 6 24 ?_
       refine pd 7 25 ?_
       refine pd 8 26 ?_
       refine pd 9 27 ?_
       refine pd 10 28 ?_
       refine pd 11 29 ?_
       refine pd 12 30 ?_
       refine pd 13 31 ?_
       refine pd 14 32 ?_
       refine pd 15 33 ?_
       refine pu 16 34 ?_
       refine done_ (done_of HT_.out (by kernel_rfl)) ?_
       try go_wp2
       go_roundg k2
       case measure => have := HK1.out; have := HK2.out; omega
       case rel => exact ⟨(x0_2), (wrap64 (x8_1 + 1)), (by first | rfl | (simp; done) | (simp [*]; done)), H', ⟨by have := HK1.out; have := HK2.out; omega⟩, ⟨by (with_reducible repeat (first | apply Kd.R_alloc | apply Kd.R_drewN | apply Kd.R_drew)); exact HO_0.out⟩, ⟨by (with_reducible repeat (first | refine blk_drewN ?_ _ | refine blk_drew ?_ | refine blk_alloc ?_ _)); exact BK68.out⟩, ⟨by repeat (first | (with_reducible first | exact HK.out | apply Kept.alloc | apply Kept.drewN | apply Kept.drew | refine Kept.setCell ?_ (.inr GW68.out) _) | exact HK.out)⟩, ⟨pE HB⟩⟩
   ·rw [if_neg c5] at H
    have c5b0 : decide (x8_1 < a2) = false := decide_eq_false c5
    clear c5
    obtain rfl := Option.some.inj H
    go_wp2
    first | go_end0 | ((try simp only [Exit.inBlock, Exit.then]); refine bodyPost_ret (results_none rfl _ _ _) rfl ?_)
    exact ⟨eT, by (with_reducible repeat (first | apply Kd.R_alloc | apply Kd.R_drewN | apply Kd.R_drew)); exact HO_0.out, pE HB, by repeat (first | (with_reducible first | exact HK.out | apply Kept.alloc | apply Kept.drewN | apply Kept.drew | refine Kept.setCell ?_ (.inr GW68.out) _) | exact HK.out)⟩
def slices_pdqsortCmpFunc_int_at_tenter_Order_1_1.l0 : Nat → List Int → Int → Int → Int → Bool → List Int → Option (List Int)
 | 0, _, _, _, _, _, _ => none
 | k + 1, x0, x1, x2, x3, x10, x75000 => if (wrap64 (x2 - x1)) ≤ 12 then ((slices_insertionSortCmpFunc_int_at_tenter_Order_1_1.f k x0 x1 x2 x75000).bind fun t101 => (some t101)) else (if x3 = 0 then (none) else (if x10 = true then (none) else (none)))
def slices_pdqsortCmpFunc_int_at_tenter_Order_1_1.f (k : Nat) (l0 : List Int) (a1 : Int) (a2 : Int) (a3 : Int) (l74_0 : List Int) : Option (List Int) := slices_pdqsortCmpFunc_int_at_tenter_Order_1_1.l0 k l0 a1 a2 a3 true l74_0
theorem slices_pdqsortCmpFunc_int_at_tenter_Order_1_1.mono_l : ∀ k, (∀ y0 y1 y2 y3 y4 y5, LeO (slices_pdqsortCmpFunc_int_at_tenter_Order_1_1.l0 k y0 y1 y2 y3 y4 y5) (slices_pdqsortCmpFunc_int_at_tenter_Order_1_1.l0 (k + 1) y0 y1 y2 y3 y4 y5))
 | 0 => fun _ _ _ _ _ _ r h => by simp [slices_pdqsortCmpFunc_int_at_tenter_Order_1_1.l0] at h
 | k + 1 => by
  have ih0 := slices_pdqsortCmpFunc_int_at_tenter_Order_1_1.mono_l k
  ·intro y0 y1 y2 y3 y4 y5
   unfold slices_pdqsortCmpFunc_int_at_tenter_Order_1_1.l0
   repeat' first
   | (with_reducible exact ih0 _ _ _ _ _ _)
   | (with_reducible exact slices_insertionSortCmpFunc_int_at_tenter_Order_1_1.mono _ _ _ _ _)
   | (with_reducible exact LeO.refl _)
   | (with_reducible exact LeO.none _)
   | (with_reducible refine LeO.ite ?_ ?_)
   | (with_reducible refine LeO.bind ?_ (fun _ => ?_))
   | exact ih0 _ _ _ _ _ _
   | exact slices_insertionSortCmpFunc_int_at_tenter_Order_1_1.mono _ _ _ _ _
   | exact LeO.none _
   | refine LeO.ite ?_ ?_
   | refine LeO.bind ?_ (fun _ => ?_)
theorem slices_pdqsortCmpFunc_int_at_tenter_Order_1_1.mono : ∀ a0 a1 a2 a3 a4 k, LeO (slices_pdqsortCmpFunc_int_at_tenter_Order_1_1.f k a0 a1 a2 a3 a4) (slices_pdqsortCmpFunc_int_at_tenter_Order_1_1.f (k + 1) a0 a1 a2 a3 a4) := by
 intro a0 a1 a2 a3 a4 k
 have ih0 := slices_pdqsortCmpFunc_int_at_tenter_Order_1_1.mono_l k
 unfold slices_pdqsortCmpFunc_int_at_tenter_Order_1_1.f
 repeat' first
   | (with_reducible exact ih0 _ _ _ _ _ _)
   | (with_reducible exact slices_insertionSortCmpFunc_int_at_tenter_Order_1_1.mono _ _ _ _ _)
   | (with_reducible exact LeO.refl _)
   | (with_reducible exact LeO.none _)
   | (with_reducible refine LeO.ite ?_ ?_)
   | (with_reducible refine LeO.bind ?_ (fun _ => ?_))
   | exact ih0 _ _ _ _ _ _
   | exact slices_insertionSortCmpFunc_int_at_tenter_Order_1_1.mono _ _ _ _ _
   | exact LeO.none _
   | refine LeO.ite ?_ ?_
   | refine LeO.bind ?_ (fun _ => ?_)
set_option maxHeartbeats 8000000 in
set_option maxRecDepth 100000 in
theorem slices_pdqsortCmpFunc_int_at_tenter_Order_1_1.calls (k : Nat) (P0_ : Nat → Prop) (u9000_ : Value) (l0 : List Int) (a1 : Int) (a2 : Int) (a3 : Int) (B74 : Nat) (A74_0 : Option Addr) (c74_0 : Nat) (l74_0 : List Int) (r : List Int) (w0 w : World) (hB : Below w0.heap.size w0 w) (ho0 : Kd.R (Kd.int .i64) 3 w w0.heap.size P0_ u9000_ l0) (hb74 : w.heap[B74]? = some (.cells #[.slice A74_0 l74_0.length c74_0] 30 (0, 0))) (hr74_0 : ∀ W_, Kept w W_ (fun k_ => P0_ k_) → Kd.C (Kd.int .i64) W_ A74_0 l74_0.length l74_0) (hc74_0 : l74_0.length ≤ c74_0) (np0_74 : ¬ P0_ B74) (h : slices_pdqsortCmpFunc_int_at_tenter_Order_1_1.f k l0 a1 a2 a3 l74_0 = some r) :
  Calls Tryd.prog 68 #[u9000_, .int .i64 a1, .int .i64 a2, .int .i64 a3, .func (.func 53) #[] #[.pointer (some ⟨B74, 0, none⟩)]] w fun e w' => e = .returned (.tuple #[]) ∧ Kd.R (Kd.int .i64) 3 w' w0.heap.size (fun k_ => (P0_ k_ ∨ w.heap.size ≤ k_)) u9000_ r ∧ Below w0.heap.size w0 w' ∧ Kept w w' (fun k_ => P0_ k_) := by
 have HO0 := Aside0.mk (show Kd.R (Kd.int .i64) 3 w w0.heap.size (fun k_ => (P0_ k_ ∨ w.heap.size ≤ k_)) u9000_ l0 from Kd.R_mono ho0 (fun k_ hk => (.inl hk)))
 have HR74_0 := Aside0.mk hr74_0
 have HC74_0 := Aside0.mk hc74_0
 clear hr74_0 hc74_0
 have GL74 := Aside0.mk (blk_lt hb74)
 have NP74 := Aside0.mk np0_74
 clear np0_74
 have BK74 := Aside0.mk hb74
 clear hb74
 have HK := Aside0.mk (Kept.refl w (fun k_ => P0_ k_))
 have HW0 := Aside0.mk hB.size
 have HB := Aside0.mk hB
 clear hB
 have H : (slices_pdqsortCmpFunc_int_at_tenter_Order_1_1.l0 k l0 a1 a2 a3 true l74_0) = some r := h
 clear h
 have H' := Aside0.mk H
 clear H
 go_enter Tryd.func68, Tryd.ntmps68
 go_wp2
 (try simp only [Act.put, List.setIfInBounds_toArray, List.set_cons_zero, List.set_cons_succ])
 go_loopg [1, 2, 3, 10] k (fun kq v1 v2 v3 v10 w' => ∃ (x0_1 : List Int) (x1_1 : Int) (x2_1 : Int) (x3_1 : Int) (x10_1 : Bool), v1 = .int .i64 x1_1 ∧ v2 = .int .i64 x2_1 ∧ v3 = .int .i64 x3_1 ∧ v10 = .bool x10_1 ∧ Aside0 (slices_pdqsortCmpFunc_int_at_tenter_Order_1_1.l0 kq x0_1 x1_1 x2_1 x3_1 x10_1 l74_0 = some r) ∧ Aside0 (kq ≤ k) ∧ Aside0 (Kd.R (Kd.int .i64) 3 w' w0.heap.size (fun k_ => (P0_ k_ ∨ w.heap.size ≤ k_)) u9000_ x0_1) ∧ Aside0 (w'.heap[B74]? = some (.cells #[(.slice A74_0 l74_0.length c74_0)] 30 (0, 0))) ∧ Aside0 (Kept w w' (fun k_ => P0_ k_)) ∧ Aside0 (Below w0.heap.size w0 w'))
 case atStart => exact ⟨(l0), (a1), (a2), (a3), (true), (by first | rfl | (simp; done) | (simp [*]; done)), (by first | rfl | (simp; done) | (simp [*]; done)), (by first | rfl | (simp; done) | (simp [*]; done)), (by first | rfl | (simp; done) | (simp [*]; done)), H', ⟨Nat.le_refl _⟩, ⟨by (with_reducible repeat (first | apply Kd.R_alloc | apply Kd.R_drewN | apply Kd.R_drew)); exact HO0.out⟩, ⟨by (with_reducible repeat (first | refine blk_drewN ?_ _ | refine blk_drew ?_ | refine blk_alloc ?_ _)); exact BK74.out⟩, ⟨by repeat (first | (with_reducible first | exact HK.out | apply Kept.alloc | apply Kept.drewN | apply Kept.drew | refine Kept.setCell ?_ (.inr GW74.out) _) | exact HK.out)⟩, ⟨pE HB⟩⟩
 case round =>
  clear H'
  try clear p2
  obtain ⟨x0_1, x1_1, x2_1, x3_1, x10_1, rfl, rfl, rfl, rfl, HA, HK1, HO_0, BK74, HK, HB⟩ := hrel
  cases gk with
  | zero => exact absurd HA.out (by simp [slices_pdqsortCmpFunc_int_at_tenter_Order_1_1.l0])
  | succ k1 =>
   have H := HA.out
   clear HA
   simp only [slices_pdqsortCmpFunc_int_at_tenter_Order_1_1.l0] at H
   by_cases c6 : (wrap64 (x2_1 - x1_1)) ≤ 12
   ·rw [if_pos c6] at H
    have c6b0 : decide ((wrap64 (x2_1 - x1_1)) ≤ 12) = true := decide_eq_true c6
    clear c6
    obtain ⟨t101, A7, H⟩ := bi H
    obtain rfl := Option.some.inj H
    obtain ⟨Ao8, co8, eo8⟩ := Kd.R_slice HO_0.out
    subst eo8
    go_wp2_with (first | ((with_reducible refine gc 91 rfl ?_); refine gL 30 Tryd.func91 #[.slice Ao8 x0_1.length co8, .int .i64 x1_1, .int .i64 x2_1, .func (.func 53) #[] #[.pointer (some ⟨B74, 0, none⟩)]] ?_; (with_reducible refine (slices_insertionSortCmpFunc_int_at_tenter_Order_1_1.calls k1 (fun k_ => some k_ = (.slice Ao8 x0_1.length co8 : Value).ownBlock) (.slice Ao8 x0_1.length co8) x0_1 x1_1 x2_1 B74 A74_0 c74_0 l74_0 t101 w0 _ ?side1 ?side2 ?side3 ?side4 ?side5 ?side6 A7.out).mono ?_); (case side1 => repeat (first | (with_reducible first | exact HB.out | apply below_alloc | apply pw_below_drewN | apply below_drew1 | refine below_set ?_ GE74.out) | exact HB.out)); (case side2 => exact Kd.R_tight rfl HO_0.out); (case side3 => exact pB BK74.out); (case side4 => exact Kd.C_kept_call HR74_0.out (by repeat (first | (with_reducible first | exact HK.out | apply Kept.alloc | apply Kept.drewN | apply Kept.drew | refine Kept.setCell ?_ (.inr GW74.out) _) | exact HK.out)) (fun k_ hs_ => (fun e_ => (HO_0.out.1 k_ e_.symm)) hs_)); (case side5 => exact HC74_0.out); (case side6 => exact Kd.R_ne HO_0.out BK74.out (by decide)); rintro e w9 ⟨rfl, hy0, hb, hkp⟩; refine ⟨_, rfl, ?_⟩; replace BK74 := Aside0.mk (blk_kept (pB BK74.out) hkp (fun hs_ => (fun e_ => (Kd.R_ne HO_0.out BK74.out (by decide)) e_) hs_)); replace HK := Aside0.mk (Kept.then_ (S := (fun k_ => P0_ k_)) (by repeat (first | (with_reducible first | exact HK.out | apply Kept.alloc | apply Kept.drewN | apply Kept.drew | refine Kept.setCell ?_ (.inr GW74.out) _) | exact HK.out)) hkp (fun k_ hs_ => (fun e_ => (HO_0.out.1 k_ e_.symm)) hs_)); replace HO_0 := Aside0.mk (Kd.R_reok rfl hy0 (fun k_ e_ => HO_0.out.1 k_ e_)); replace HB := Aside0.mk (hb); clear hb hkp hy0))
    first | go_end0 | ((try simp only [Exit.inBlock, Exit.then]); refine bodyPost_ret (results_none rfl _ _ _) rfl ?_)
    exact ⟨eT, by (with_reducible repeat (first | apply Kd.R_alloc | apply Kd.R_drewN | apply Kd.R_drew)); exact HO_0.out, pE HB, by repeat (first | (with_reducible first | exact HK.out | apply Kept.alloc | apply Kept.drewN | apply Kept.drew | refine Kept.setCell ?_ (.inr GW74.out) _) | exact HK.out)⟩
   ·rw [if_neg c6] at H
    have c6b0 : decide ((wrap64 (x2_1 - x1_1)) ≤ 12) = false := decide_eq_false c6
    clear c6
    by_cases c10 : x3_1 = 0
    ·rw [if_pos c10] at H
     exact absurd H (by simp)
    ·rw [if_neg c10] at H
     have c10b0 : (x3_1 == 0) = false := beq_eq_false_iff_ne.mpr c10
     have c10b1 : (x3_1 != 0) = true := bne_iff_ne.mpr c10
     by_cases c11 : x10_1 = true
     ·subst c11
      rw [if_pos rfl] at H
      exact absurd H (by simp)
     ·replace c11 := Bool.eq_false_iff.mpr c11
      subst c11
      rw [if_neg (show ¬ (false = true) by decide)] at H
      exact absurd H (by simp)
def slices_SortFunc_int_int_at_tenter_Order_1_1.f (k : Nat) (l0 : List Int) (l56_0 : List Int) : Option (List Int) := (bits_Len.f k (IntKind.u64.wrap ((l0.length : Int)))).bind fun t101 => ((slices_pdqsortCmpFunc_int_at_tenter_Order_1_1.f k l0 0 (l0.length : Int) t101 l56_0).bind fun t102 => (some t102))
theorem slices_SortFunc_int_int_at_tenter_Order_1_1.mono : ∀ a0 a1 k, LeO (slices_SortFunc_int_int_at_tenter_Order_1_1.f k a0 a1) (slices_SortFunc_int_int_at_tenter_Order_1_1.f (k + 1) a0 a1) := by
 intro a0 a1 k
 unfold slices_SortFunc_int_int_at_tenter_Order_1_1.f
 repeat' first
   | (with_reducible exact bits_Len.mono _ _)
   | (with_reducible exact slices_pdqsortCmpFunc_int_at_tenter_Order_1_1.mono _ _ _ _ _ _)
   | (with_reducible exact LeO.refl _)
   | (with_reducible exact LeO.none _)
   | (with_reducible refine LeO.ite ?_ ?_)
   | (with_reducible refine LeO.bind ?_ (fun _ => ?_))
   | exact bits_Len.mono _ _
   | exact slices_pdqsortCmpFunc_int_at_tenter_Order_1_1.mono _ _ _ _ _ _
   | exact LeO.none _
   | refine LeO.ite ?_ ?_
   | refine LeO.bind ?_ (fun _ => ?_)
set_option maxHeartbeats 8000000 in
set_option maxRecDepth 100000 in
theorem slices_SortFunc_int_int_at_tenter_Order_1_1.calls (k : Nat) (P0_ : Nat → Prop) (u9000_ : Value) (l0 : List Int) (B56 : Nat) (A56_0 : Option Addr) (c56_0 : Nat) (l56_0 : List Int) (r : List Int) (w0 w : World) (hB : Below w0.heap.size w0 w) (ho0 : Kd.R (Kd.int .i64) 3 w w0.heap.size P0_ u9000_ l0) (hb56 : w.heap[B56]? = some (.cells #[.slice A56_0 l56_0.length c56_0] 30 (0, 0))) (hr56_0 : ∀ W_, Kept w W_ (fun k_ => P0_ k_) → Kd.C (Kd.int .i64) W_ A56_0 l56_0.length l56_0) (hc56_0 : l56_0.length ≤ c56_0) (np0_56 : ¬ P0_ B56) (h : slices_SortFunc_int_int_at_tenter_Order_1_1.f k l0 l56_0 = some r) :
  Calls Tryd.prog 52 #[u9000_, .func (.func 53) #[] #[.pointer (some ⟨B56, 0, none⟩)]] w fun e w' => e = .returned (.tuple #[]) ∧ Kd.R (Kd.int .i64) 3 w' w0.heap.size (fun k_ => (P0_ k_ ∨ w.heap.size ≤ k_)) u9000_ r ∧ Below w0.heap.size w0 w' ∧ Kept w w' (fun k_ => P0_ k_) := by
 have HO0 := Aside0.mk (show Kd.R (Kd.int .i64) 3 w w0.heap.size (fun k_ => (P0_ k_ ∨ w.heap.size ≤ k_)) u9000_ l0 from Kd.R_mono ho0 (fun k_ hk => (.inl hk)))
 have HR56_0 := Aside0.mk hr56_0
 have HC56_0 := Aside0.mk hc56_0
 clear hr56_0 hc56_0
 have GL56 := Aside0.mk (blk_lt hb56)
 have NP56 := Aside0.mk np0_56
 clear np0_56
 have BK56 := Aside0.mk hb56
 clear hb56
 have HK := Aside0.mk (Kept.refl w (fun k_ => P0_ k_))
 have HW0 := Aside0.mk hB.size
 have HB := Aside0.mk hB
 clear hB
 have H : ((bits_Len.f k (IntKind.u64.wrap ((l0.length : Int)))).bind fun t101 => ((slices_pdqsortCmpFunc_int_at_tenter_Order_1_1.f k l0 0 (l0.length : Int) t101 l56_0).bind fun t102 => (some t102))) = some r := h
 clear h
 obtain ⟨t101, A3, H⟩ := bi H
 obtain ⟨t102, A4, H⟩ := bi H
 obtain rfl := Option.some.inj H
 obtain ⟨Ao5, co5, eo5⟩ := Kd.R_slice HO0.out
 subst eo5
 go_enter Tryd.func52, Tryd.ntmps52
 go_wp2_with (first | ((with_reducible refine gc 65 rfl ?_); refine gL 11 Tryd.func65 #[.int .u64 (IntKind.u64.wrap ((l0.length : Int)))] ?_; (with_reducible refine (bits_Len.calls k (IntKind.u64.wrap ((l0.length : Int))) t101 _ A3.out).mono ?_); rintro e w' ⟨rfl, ⟨nd, rfl⟩⟩; refine ⟨_, rfl, ?_⟩) | ((with_reducible refine gc 68 rfl ?_); refine gL 13 Tryd.func68 #[.slice Ao5 l0.length co5, .int .i64 0, .int .i64 (l0.length : Int), .int .i64 t101, .func (.func 53) #[] #[.pointer (some ⟨B56, 0, none⟩)]] ?_; (with_reducible refine (slices_pdqsortCmpFunc_int_at_tenter_Order_1_1.calls k (fun k_ => some k_ = (.slice Ao5 l0.length co5 : Value).ownBlock) (.slice Ao5 l0.length co5) l0 0 (l0.length : Int) t101 B56 A56_0 c56_0 l56_0 t102 w0 _ ?side1 ?side2 ?side3 ?side4 ?side5 ?side6 A4.out).mono ?_); (case side1 => repeat (first | (with_reducible first | exact HB.out | apply below_alloc | apply pw_below_drewN | apply below_drew1 | refine below_set ?_ GE56.out) | exact HB.out)); (case side2 => exact Kd.R_tight rfl HO0.out); (case side3 => exact pB BK56.out); (case side4 => exact Kd.C_kept_call HR56_0.out (by repeat (first | (with_reducible first | exact HK.out | apply Kept.alloc | apply Kept.drewN | apply Kept.drew | refine Kept.setCell ?_ (.inr GW56.out) _) | exact HK.out)) (fun k_ hs_ => (fun e_ => (HO0.out.1 k_ e_.symm)) hs_)); (case side5 => exact HC56_0.out); (case side6 => exact Kd.R_ne HO0.out BK56.out (by decide)); rintro e w6 ⟨rfl, hy0, hb, hkp⟩; refine ⟨_, rfl, ?_⟩; replace BK56 := Aside0.mk (blk_kept (pB BK56.out) hkp (fun hs_ => (fun e_ => (Kd.R_ne HO0.out BK56.out (by decide)) e_) hs_)); replace HK := Aside0.mk (Kept.then_ (S := (fun k_ => P0_ k_)) (by repeat (first | (with_reducible first | exact HK.out | apply Kept.alloc | apply Kept.drewN | apply Kept.drew | refine Kept.setCell ?_ (.inr GW56.out) _) | exact HK.out)) hkp (fun k_ hs_ => (fun e_ => (HO0.out.1 k_ e_.symm)) hs_)); replace HO0 := Aside0.mk (Kd.R_reok rfl hy0 (fun k_ e_ => HO0.out.1 k_ e_)); replace HB := Aside0.mk (hb); clear hb hkp hy0))
 first | go_end0 | ((try simp only [Exit.inBlock, Exit.then]); refine bodyPost_ret (results_none rfl _ _ _) rfl ?_)
 exact ⟨eT, by (with_reducible repeat (first | apply Kd.R_alloc | apply Kd.R_drewN | apply Kd.R_drew)); exact HO0.out, pE HB, by repeat (first | (with_reducible first | exact HK.out | apply Kept.alloc | apply Kept.drewN | apply Kept.drew | refine Kept.setCell ?_ (.inr GW56.out) _) | exact HK.out)⟩
def tenter_Order_1.l0 : Nat → Int → List Int → Int → Int → List Int → Option (Bool)
 | 0, _, _, _, _, _ => none
 | k + 1, x0, x14, x15, x16, x3000 => if x16 < x15 then (if 0 ≤ x16 then (if x16 < (x14.length : Int) then (if 0 ≤ (rd x14 x16) then (if (rd x14 x16) < (x3000.length : Int) then (if (rd x3000 (rd x14 x16)) < (wrap64 (x0 + x16)) then (some false) else (tenter_Order_1.l0 k x0 x14 x15 (wrap64 (x16 + 1)) x3000)) else (none)) else (none)) else (none)) else (none)) else (some true)
def tenter_Order_1.f (k : Nat) (a0 : Int) (l1 : List Int) (l2_0 : List Int) : Option (Bool) := (slices_Clone_int_int.f l1).bind fun t101 => ((slices_SortFunc_int_int_at_tenter_Order_1_1.f k t101 l2_0).bind fun t104 => (tenter_Order_1.l0 k a0 t104 (t101.length : Int) 0 l2_0))
theorem tenter_Order_1.mono_l : ∀ k, (∀ y0 y1 y2 y3 y4, LeO (tenter_Order_1.l0 k y0 y1 y2 y3 y4) (tenter_Order_1.l0 (k + 1) y0 y1 y2 y3 y4))
 | 0 => fun _ _ _ _ _ r h => by simp [tenter_Order_1.l0] at h
 | k + 1 => by
  have ih0 := tenter_Order_1.mono_l k
  ·intro y0 y1 y2 y3 y4
   unfold tenter_Order_1.l0
   repeat' first
   | (with_reducible exact ih0 _ _ _ _ _)
   | (with_reducible exact slices_SortFunc_int_int_at_tenter_Order_1_1.mono _ _ _)
   | (with_reducible exact LeO.refl _)
   | (with_reducible exact LeO.none _)
   | (with_reducible refine LeO.ite ?_ ?_)
   | (with_reducible refine LeO.bind ?_ (fun _ => ?_))
   | exact ih0 _ _ _ _ _
   | exact slices_SortFunc_int_int_at_tenter_Order_1_1.mono _ _ _
   | exact LeO.none _
   | refine LeO.ite ?_ ?_
   | refine LeO.bind ?_ (fun _ => ?_)
theorem tenter_Order_1.mono : ∀ a0 a1 a2 k, LeO (tenter_Order_1.f k a0 a1 a2) (tenter_Order_1.f (k + 1) a0 a1 a2) := by
 intro a0 a1 a2 k
 have ih0 := tenter_Order_1.mono_l k
 unfold tenter_Order_1.f
 repeat' first
   | (with_reducible exact ih0 _ _ _ _ _)
   | (with_reducible exact slices_SortFunc_int_int_at_tenter_Order_1_1.mono _ _ _)
   | (with_reducible exact LeO.refl _)
   | (with_reducible exact LeO.none _)
   | (with_reducible refine LeO.ite ?_ ?_)
   | (with_reducible refine LeO.bind ?_ (fun _ => ?_))
   | exact ih0 _ _ _ _ _
   | exact slices_SortFunc_int_int_at_tenter_Order_1_1.mono _ _ _
   | exact LeO.none _
   | refine LeO.ite ?_ ?_
   | refine LeO.bind ?_ (fun _ => ?_)
set_option maxHeartbeats 8000000 in
set_option maxRecDepth 100000 in
theorem tenter_Order_1.calls (k : Nat) (a0 : Int) (A1 : Option Addr) (c1 : Nat) (l1 : List Int) (B2 : Nat) (A2_0 : Option Addr) (c2_0 : Nat) (l2_0 : List Int) (r : Bool) (w : World) (hr1 : Kd.C (Kd.int .i64) w A1 l1.length l1) (hc1 : l1.length ≤ c1) (hb2 : w.heap[B2]? = some (.cells #[.slice A2_0 l2_0.length c2_0] 30 (0, 0))) (hr2_0 : Kd.C (Kd.int .i64) w A2_0 l2_0.length l2_0) (hc2_0 : l2_0.length ≤ c2_0) (h : tenter_Order_1.f k a0 l1 l2_0 = some r) :
  Calls Tryd.prog 50 #[.int .i64 a0, .slice A1 l1.length c1, .pointer (some ⟨B2, 0, none⟩)] w fun e w' => e = .returned (.bool r) ∧ Below w.heap.size w w' := by
 have HR1 := Aside0.mk hr1
 have HC1 := Aside0.mk hc1
 clear hr1 hc1
 have HR2_0 := Aside0.mk hr2_0
 have HC2_0 := Aside0.mk hc2_0
 clear hr2_0 hc2_0
 have BK2 := Aside0.mk hb2
 clear hb2
 have HB := Aside0.mk (Below.refl w.heap.size w)
 have H : ((slices_Clone_int_int.f l1).bind fun t101 => ((slices_SortFunc_int_int_at_tenter_Order_1_1.f k t101 l2_0).bind fun t104 => (tenter_Order_1.l0 k a0 t104 (t101.length : Int) 0 l2_0))) = some r := h
 clear h
 obtain ⟨t101, A4, H⟩ := bi H
 obtain ⟨t104, A5, H⟩ := bi H
 have H' := Aside0.mk H
 clear H
 go_enter Tryd.func50, Tryd.ntmps50
 go_wp2_with (first | ((with_reducible refine gc 51 rfl ?_); refine gL 10 Tryd.func51 #[.slice A1 l1.length c1] ?_; (with_reducible refine (slices_Clone_int_int.calls _ _ l1 t101 _ ?side1 ?side2 A4.out).mono ?_); (case side1 => exact pC HR1.out); (case side2 => exact HC1.out); rintro e w6 ⟨v102, rfl, ho0, hb⟩; refine ⟨_, rfl, ?_⟩; have HO103 := rl ho0 HB; replace BK2 := bb BK2 hb; replace HB := bs HB hb; clear hb ho0; obtain ⟨Ao7, co7, eo7⟩ := Kd.R_slice HO103.out; subst eo7) | ((with_reducible refine gc 52 rfl ?_); refine gL 13 Tryd.func52 #[.slice Ao7 t101.length co7, .func (.func 53) #[] #[.pointer (some ⟨B2, 0, none⟩)]] ?_; (with_reducible refine (slices_SortFunc_int_int_at_tenter_Order_1_1.calls k (fun k_ => some k_ = (.slice Ao7 t101.length co7 : Value).ownBlock) (.slice Ao7 t101.length co7) t101 B2 A2_0 c2_0 l2_0 t104 w _ ?side1 ?side2 ?side3 ?side4 ?side5 ?side6 A5.out).mono ?_); (case side1 => repeat (first | (with_reducible first | exact HB.out | apply below_alloc | apply pw_below_drewN | apply below_drew1 | refine below_set ?_ GE2.out) | exact HB.out)); (case side2 => exact Kd.R_tight rfl HO103.out); (case side3 => exact pB BK2.out); (case side4 => exact Kd.C_kept_came (Kd.heap_int .i64) HR2_0.out (pE HB) (fun k_ hs_ => (fun e_ => Kd.R_base HO103.out k_ e_.symm) hs_)); (case side5 => exact HC2_0.out); (case side6 => exact Kd.R_ne HO103.out BK2.out (by decide)); rintro e w8 ⟨rfl, hy0, hb, hkp⟩; refine ⟨_, rfl, ?_⟩; replace BK2 := Aside0.mk (blk_kept (pB BK2.out) hkp (fun hs_ => (fun e_ => (Kd.R_ne HO103.out BK2.out (by decide)) e_) hs_)); replace HO103 := Aside0.mk (Kd.R_reok rfl hy0 (fun k_ e_ => HO103.out.1 k_ e_)); replace HB := Aside0.mk (hb); clear hb hkp hy0))
 go_loopg [16] k (fun kq v16 w' => ∃ (x16_1 : Int), v16 = .int .i64 x16_1 ∧ Aside0 (tenter_Order_1.l0 kq a0 t104 (t101.length : Int) x16_1 l2_0 = some r) ∧ Aside0 (kq ≤ k) ∧ Aside0 (Kd.R (Kd.int .i64) 3 w' w.heap.size (fun _ => True) (.slice Ao7 t101.length co7) t104) ∧ Aside0 (w'.heap[B2]? = some (.cells #[(.slice A2_0 l2_0.length c2_0)] 30 (0, 0))) ∧ Aside0 (Below w.heap.size w w'))
 case atStart => exact ⟨(0), (by first | rfl | (simp; done) | (simp [*]; done)), H', ⟨Nat.le_refl _⟩, ⟨by (with_reducible repeat (first | apply Kd.R_alloc | apply Kd.R_drewN | apply Kd.R_drew)); exact HO103.out⟩, ⟨by (with_reducible repeat (first | refine blk_drewN ?_ _ | refine blk_drew ?_ | refine blk_alloc ?_ _)); exact BK2.out⟩, ⟨pE HB⟩⟩
 case round =>
  clear H'
  try clear c1
  try clear c2
  try clear p2
  try clear c5
  try clear c7
  obtain ⟨x16_1, rfl, HA, HK1, HO_14, BK2, HB⟩ := hrel
  have hl14_1 := (Kd.R_reads' HO_14.out).1
  rw [hl14_1] at HO_14
  (try simp only [hl14_1])
  (try simp only [hl14_1] at BK2)
  cases gk with
  | zero => exact absurd HA.out (by simp [tenter_Order_1.l0])
  | succ k1 =>
   have H := HA.out
   clear HA
   simp only [tenter_Order_1.l0] at H
   by_cases c9 : x16_1 < (t101.length : Int)
   ·rw [if_pos c9] at H
    have c9b0 : decide (x16_1 < (t101.length : Int)) = true := decide_eq_true c9
    clear c9
    by_cases c10 : 0 ≤ x16_1
    ·rw [if_pos c10] at H
     have c10b0 : decide (0 ≤ x16_1) = true := decide_eq_true c10
     clear c10
     by_cases c11 : x16_1 < (t104.length : Int)
     ·rw [if_pos c11] at H
      have c11b0 : decide (x16_1 < (t104.length : Int)) = true := decide_eq_true c11
      clear c11
      by_cases c12 : 0 ≤ (rd t104 x16_1)
      ·rw [if_pos c12] at H
       have c12b0 : decide (0 ≤ (rd t104 x16_1)) = true := decide_eq_true c12
       clear c12
       by_cases c13 : (rd t104 x16_1) < (l2_0.length : Int)
       ·rw [if_pos c13] at H
        have c13b0 : decide ((rd t104 x16_1) < (l2_0.length : Int)) = true := decide_eq_true c13
        clear c13
        by_cases c14 : (rd l2_0 (rd t104 x16_1)) < (wrap64 (a0 + x16_1))
        ·rw [if_pos c14] at H
         have c14b0 : decide ((rd l2_0 (rd t104 x16_1)) < (wrap64 (a0 + x16_1))) = true := decide_eq_true c14
         clear c14
         obtain rfl := Option.some.inj H
         have p105 : 0 ≤ (x16_1 : Int) := dT
         have q105 : x16_1 < (t104.length : Int) := dT
         obtain ⟨ad105, e105, hx105_0⟩ := Kd.at_int (Kd.R_reads' HO_14.out).2.2 x16_1 p105 q105
         cases e105
         replace p105 := eq_true p105
         replace q105 := eq_true q105
         obtain ⟨_, _⟩ := cf1 BK2
         have p106 : 0 ≤ ((rd t104 x16_1) : Int) := dT
         have q106 : (rd t104 x16_1) < (l2_0.length : Int) := dT
         obtain ⟨ad106, e106, hx106_0⟩ := Kd.at_int HR2_0.out (rd t104 x16_1) p106 q106
         cases e106
         replace hx106_0 := cut_ HB hx106_0
         replace p106 := eq_true p106
         replace q106 := eq_true q106
         go_wp2
         go_ret
         exact ⟨eT, pE HB⟩
        ·rw [if_neg c14] at H
         have c14b0 : decide ((rd l2_0 (rd t104 x16_1)) < (wrap64 (a0 + x16_1))) = false := decide_eq_false c14
         clear c14
         have H' := Aside0.mk H
         clear H
         have p105 : 0 ≤ (x16_1 : Int) := dT
         have q105 : x16_1 < (t104.length : Int) := dT
         obtain ⟨ad105, e105, hx105_0⟩ := Kd.at_int (Kd.R_reads' HO_14.out).2.2 x16_1 p105 q105
         cases e105
         replace p105 := eq_true p105
         replace q105 := eq_true q105
         obtain ⟨_, _⟩ := cf1 BK2
         have p106 : 0 ≤ ((rd t104 x16_1) : Int) := dT
         have q106 : (rd t104 x16_1) < (l2_0.length : Int) := dT
         obtain ⟨ad106, e106, hx106_0⟩ := Kd.at_int HR2_0.out (rd t104 x16_1) p106 q106
         cases e106
         replace hx106_0 := cut_ HB hx106_0
         replace p106 := eq_true p106
         replace q106 := eq_true q106
         go_wp2
         (try simp only [← hl14_1])
         go_roundg k1
         case measure => have := HK1.out; omega
         case rel => exact ⟨(wrap64 (x16_1 + 1)), (by first | rfl | (simp; done) | (simp [*]; done)), H', ⟨by have := HK1.out; omega⟩, ⟨by (try simp only [hl14_1]); (with_reducible repeat (first | apply Kd.R_alloc | apply Kd.R_drewN | apply Kd.R_drew)); exact HO_14.out⟩, ⟨by (try simp only [hl14_1]); (with_reducible repeat (first | refine blk_drewN ?_ _ | refine blk_drew ?_ | refine blk_alloc ?_ _)); exact BK2.out⟩, ⟨pE HB⟩⟩
       ·rw [if_neg c13] at H
        exact absurd H (by simp)
      ·rw [if_neg c12] at H
       exact absurd H (by simp)
     ·rw [if_neg c11] at H
      exact absurd H (by simp)
    ·rw [if_neg c10] at H
     exact absurd H (by simp)
   ·rw [if_neg c9] at H
    have c9b0 : decide (x16_1 < (t101.length : Int)) = false := decide_eq_false c9
    have c9b9 : decide (x16_1 < (t104.length : Int)) = false := by first | (rw [hl14_1] at c9b0; exact c9b0) | (rw [← hl14_1] at c9b0; exact c9b0) | (rw [hl14_1]; exact c9b0) | (rw [← hl14_1]; exact c9b0)
    clear c9
    obtain rfl := Option.some.inj H
    go_wp2
    go_ret
    exact ⟨eT, pE HB⟩
end Go.Proofs.YtikmfpjcdcckeaaDoor.P
