/- Part 4 of what the law's proof needs: words, walks of functions and plain facts. -/
import Derived.Test.YtlmglnobdcgbeaaGreatF01
import Derived.Test.YtlmglnobdcgbeaaGreatF03
set_option linter.unusedVariables false
set_option linter.unusedSimpArgs false
namespace Go.Proofs.YtlmglnobdcgbeaaGreat.P
open Go.RowKit Go.Proofs.YtlmglnobdcgbeaaGreatW.PrintWords Go.Proofs.YtlmglnobdcgbeaaGreatW.PrintLast Go.Proofs.YtlmglnobdcgbeaaGreatW.PrintMore
attribute [local go_sem] max2_int min2_int max_two min_two max_three min_three max_four min_four
mutual
def walkmilllaw04_Morning_day.l0 : Nat → Int → Int → Int → List (S126) → Int → List Int → List Int → Option ((List (S67)) × List Int)
 | 0, _, _, _, _, _, _, _ => none
 | k + 1, x4, x5, x6, x102000, x102001, x102002, x104001 => if x6 < x4 then (if x104001.length < 17592186044416 then (walkmilllaw04_Morning_day.l0 k x4 x5 (wrap64 (x6 + 1)) x102000 x102001 x102002 (x104001 ++ [x6])) else (none)) else (walkmilllaw04_Morning_day.l1 k x4 x5 0 x102000 x102001 x102002 x104001)
def walkmilllaw04_Morning_day.l1 : Nat → Int → Int → Int → List (S126) → Int → List Int → List Int → Option ((List (S67)) × List Int)
 | 0, _, _, _, _, _, _, _ => none
 | k + 1, x4, x5, x7, x102000, x102001, x102002, x104001 => if x7 < (x102002.length : Int) then (walkmilllaw04_Morning_day.j2 k x4 x5 x7 (decide (x7 < 4)) x102000 x102001 x102002 x104001) else (walkmilllaw04_Morning_day.j2 k x4 x5 x7 false x102000 x102001 x102002 x104001)
def walkmilllaw04_Morning_day.j2 : Nat → Int → Int → Int → Bool → List (S126) → Int → List Int → List Int → Option ((List (S67)) × List Int)
 | 0, _, _, _, _, _, _, _, _ => none
 | k + 1, x4, x5, x7, x39, x102000, x102001, x102002, x104001 => if x39 = true then (if x4 = 0 then (none) else (if 0 ≤ x7 then (if x7 < (x102002.length : Int) then (if 0 ≤ (Int.tmod x7 x4) then (if (Int.tmod x7 x4) < (x104001.length : Int) then (if 0 ≤ (Int.tmod (wrap64 (rd x102002 x7)) x4) then (if (Int.tmod (wrap64 (rd x102002 x7)) x4) < (x104001.length : Int) then (walkmilllaw04_Morning_day.l1 k x4 x5 (wrap64 (x7 + 1)) x102000 x102001 x102002 ((x104001.set ((Int.tmod x7 x4) : Int).toNat (rd x104001 (Int.tmod (wrap64 (rd x102002 x7)) x4))).set ((Int.tmod (wrap64 (rd x102002 x7)) x4) : Int).toNat (rd x104001 (Int.tmod x7 x4)))) else (none)) else (none)) else (none)) else (none)) else (none)) else (none))) else (walkmilllaw04_Morning_day.l2 k x4 x5 0 x102000 x102001 x102002 ([] : List (S67)) x104001)
def walkmilllaw04_Morning_day.l2 : Nat → Int → Int → Int → List (S126) → Int → List Int → List (S67) → List Int → Option ((List (S67)) × List Int)
 | 0, _, _, _, _, _, _, _, _ => none
 | k + 1, x4, x5, x11, x102000, x102001, x102002, x104000, x104001 => if x11 < (x102000.length : Int) then (walkmilllaw04_Morning_day.j4 k x4 x5 x11 (decide (x11 < 8)) x102000 x102001 x102002 x104000 x104001) else (walkmilllaw04_Morning_day.j4 k x4 x5 x11 false x102000 x102001 x102002 x104000 x104001)
def walkmilllaw04_Morning_day.j4 : Nat → Int → Int → Int → Bool → List (S126) → Int → List Int → List (S67) → List Int → Option ((List (S67)) × List Int)
 | 0, _, _, _, _, _, _, _, _, _ => none
 | k + 1, x4, x5, x11, x80, x102000, x102001, x102002, x104000, x104001 => if x80 = true then (if 0 ≤ x11 then (if x11 < (x102000.length : Int) then (if (Int.tmod ((rd_T126 x102000 x11).f1) 3) = 0 then (if x4 = 0 then (none) else ((walkmilllaw04_span.f (wrap64 (1 + (Int.tmod (wrap64 ((rd_T126 x102000 x11).f2)) 15))) (mn 20 (wrap64 ((wrap64 (1 + (Int.tmod (wrap64 ((rd_T126 x102000 x11).f2)) 15))) + (Int.tmod (wrap64 ((rd_T126 x102000 x11).f3)) 5))))).bind fun bt114 => (if x104000.length < 4398046511104 then (walkmilllaw04_Morning_day.l2 k x4 (wrap64 (x5 + (Int.tmod (wrap64 ((rd_T126 x102000 x11).f1)) 20))) (wrap64 (x11 + 1)) x102000 x102001 x102002 (x104000 ++ [(⟨Int.tmod (wrap64 ((rd_T126 x102000 x11).f0)) x4, wrap64 (x5 + (Int.tmod (wrap64 ((rd_T126 x102000 x11).f1)) 20)), (⟨bt114.1, bt114.2⟩ : S42)⟩ : S67)]) x104001) else (none)))) else (if x4 = 0 then (none) else ((walkmilllaw04_span.f (wrap64 (1 + (Int.tmod (wrap64 ((rd_T126 x102000 x11).f2)) 15))) (mn 20 (wrap64 ((wrap64 (1 + (Int.tmod (wrap64 ((rd_T126 x102000 x11).f2)) 15))) + (Int.tmod (wrap64 ((rd_T126 x102000 x11).f3)) 5))))).bind fun bt119 => (if x104000.length < 4398046511104 then (walkmilllaw04_Morning_day.l2 k x4 x5 (wrap64 (x11 + 1)) x102000 x102001 x102002 (x104000 ++ [(⟨Int.tmod (wrap64 ((rd_T126 x102000 x11).f0)) x4, x5, (⟨bt119.1, bt119.2⟩ : S42)⟩ : S67)]) x104001) else (none))))) else (none)) else (none)) else (some (x104000, x104001))
end
def walkmilllaw04_Morning_day.f (k : Nat) (l0_0 : List (S126)) (a0_1 : Int) (l0_2 : List Int) : Option ((List (S67)) × List Int) := walkmilllaw04_Morning_day.l0 k (wrap64 (1 + (Int.tmod (wrap64 (a0_1)) 4))) 0 0 l0_0 a0_1 l0_2 ([] : List Int)
theorem walkmilllaw04_Morning_day.mono_l : ∀ k, (∀ y0 y1 y2 y3 y4 y5 y6, LeO (walkmilllaw04_Morning_day.l0 k y0 y1 y2 y3 y4 y5 y6) (walkmilllaw04_Morning_day.l0 (k + 1) y0 y1 y2 y3 y4 y5 y6)) ∧ (∀ y0 y1 y2 y3 y4 y5 y6, LeO (walkmilllaw04_Morning_day.l1 k y0 y1 y2 y3 y4 y5 y6) (walkmilllaw04_Morning_day.l1 (k + 1) y0 y1 y2 y3 y4 y5 y6)) ∧ (∀ y0 y1 y2 y3 y4 y5 y6 y7, LeO (walkmilllaw04_Morning_day.j2 k y0 y1 y2 y3 y4 y5 y6 y7) (walkmilllaw04_Morning_day.j2 (k + 1) y0 y1 y2 y3 y4 y5 y6 y7)) ∧ (∀ y0 y1 y2 y3 y4 y5 y6 y7, LeO (walkmilllaw04_Morning_day.l2 k y0 y1 y2 y3 y4 y5 y6 y7) (walkmilllaw04_Morning_day.l2 (k + 1) y0 y1 y2 y3 y4 y5 y6 y7)) ∧ (∀ y0 y1 y2 y3 y4 y5 y6 y7 y8, LeO (walkmilllaw04_Morning_day.j4 k y0 y1 y2 y3 y4 y5 y6 y7 y8) (walkmilllaw04_Morning_day.j4 (k + 1) y0 y1 y2 y3 y4 y5 y6 y7 y8))
 | 0 => ⟨fun _ _ _ _ _ _ _ r h => by simp [walkmilllaw04_Morning_day.l0] at h, fun _ _ _ _ _ _ _ r h => by simp [walkmilllaw04_Morning_day.l1] at h, fun _ _ _ _ _ _ _ _ r h => by simp [walkmilllaw04_Morning_day.j2] at h, fun _ _ _ _ _ _ _ _ r h => by simp [walkmilllaw04_Morning_day.l2] at h, fun _ _ _ _ _ _ _ _ _ r h => by simp [walkmilllaw04_Morning_day.j4] at h⟩
 | k + 1 => by
  obtain ⟨ih0, ih1, ih2, ih3, ih4⟩ := walkmilllaw04_Morning_day.mono_l k
  refine ⟨?_, ?_, ?_, ?_, ?_⟩
  ·intro y0 y1 y2 y3 y4 y5 y6
   unfold walkmilllaw04_Morning_day.l0
   repeat' first
   | (with_reducible exact ih0 _ _ _ _ _ _ _)
   | (with_reducible exact ih1 _ _ _ _ _ _ _)
   | (with_reducible exact ih2 _ _ _ _ _ _ _ _)
   | (with_reducible exact ih3 _ _ _ _ _ _ _ _)
   | (with_reducible exact ih4 _ _ _ _ _ _ _ _ _)
   | (with_reducible exact LeO.refl _)
   | (with_reducible exact LeO.none _)
   | (with_reducible refine LeO.ite ?_ ?_)
   | (with_reducible refine LeO.bind ?_ (fun _ => ?_))
   | exact ih0 _ _ _ _ _ _ _
   | exact ih1 _ _ _ _ _ _ _
   | exact ih2 _ _ _ _ _ _ _ _
   | exact ih3 _ _ _ _ _ _ _ _
   | exact ih4 _ _ _ _ _ _ _ _ _
   | exact LeO.none _
   | refine LeO.ite ?_ ?_
   | refine LeO.bind ?_ (fun _ => ?_)
  ·intro y0 y1 y2 y3 y4 y5 y6
   unfold walkmilllaw04_Morning_day.l1
   repeat' first
   | (with_reducible exact ih0 _ _ _ _ _ _ _)
   | (with_reducible exact ih1 _ _ _ _ _ _ _)
   | (with_reducible exact ih2 _ _ _ _ _ _ _ _)
   | (with_reducible exact ih3 _ _ _ _ _ _ _ _)
   | (with_reducible exact ih4 _ _ _ _ _ _ _ _ _)
   | (with_reducible exact LeO.refl _)
   | (with_reducible exact LeO.none _)
   | (with_reducible refine LeO.ite ?_ ?_)
   | (with_reducible refine LeO.bind ?_ (fun _ => ?_))
   | exact ih0 _ _ _ _ _ _ _
   | exact ih1 _ _ _ _ _ _ _
   | exact ih2 _ _ _ _ _ _ _ _
   | exact ih3 _ _ _ _ _ _ _ _
   | exact ih4 _ _ _ _ _ _ _ _ _
   | exact LeO.none _
   | refine LeO.ite ?_ ?_
   | refine LeO.bind ?_ (fun _ => ?_)
  ·intro y0 y1 y2 y3 y4 y5 y6 y7
   unfold walkmilllaw04_Morning_day.j2
   repeat' first
   | (with_reducible exact ih0 _ _ _ _ _ _ _)
   | (with_reducible exact ih1 _ _ _ _ _ _ _)
   | (with_reducible exact ih2 _ _ _ _ _ _ _ _)
   | (with_reducible exact ih3 _ _ _ _ _ _ _ _)
   | (with_reducible exact ih4 _ _ _ _ _ _ _ _ _)
   | (with_reducible exact LeO.refl _)
   | (with_reducible exact LeO.none _)
   | (with_reducible refine LeO.ite ?_ ?_)
   | (with_reducible refine LeO.bind ?_ (fun _ => ?_))
   | exact ih0 _ _ _ _ _ _ _
   | exact ih1 _ _ _ _ _ _ _
   | exact ih2 _ _ _ _ _ _ _ _
   | exact ih3 _ _ _ _ _ _ _ _
   | exact ih4 _ _ _ _ _ _ _ _ _
   | exact LeO.none _
   | refine LeO.ite ?_ ?_
   | refine LeO.bind ?_ (fun _ => ?_)
  ·intro y0 y1 y2 y3 y4 y5 y6 y7
   unfold walkmilllaw04_Morning_day.l2
   repeat' first
   | (with_reducible exact ih0 _ _ _ _ _ _ _)
   | (with_reducible exact ih1 _ _ _ _ _ _ _)
   | (with_reducible exact ih2 _ _ _ _ _ _ _ _)
   | (with_reducible exact ih3 _ _ _ _ _ _ _ _)
   | (with_reducible exact ih4 _ _ _ _ _ _ _ _ _)
   | (with_reducible exact LeO.refl _)
   | (with_reducible exact LeO.none _)
   | (with_reducible refine LeO.ite ?_ ?_)
   | (with_reducible refine LeO.bind ?_ (fun _ => ?_))
   | exact ih0 _ _ _ _ _ _ _
   | exact ih1 _ _ _ _ _ _ _
   | exact ih2 _ _ _ _ _ _ _ _
   | exact ih3 _ _ _ _ _ _ _ _
   | exact ih4 _ _ _ _ _ _ _ _ _
   | exact LeO.none _
   | refine LeO.ite ?_ ?_
   | refine LeO.bind ?_ (fun _ => ?_)
  ·intro y0 y1 y2 y3 y4 y5 y6 y7 y8
   unfold walkmilllaw04_Morning_day.j4
   repeat' first
   | (with_reducible exact ih0 _ _ _ _ _ _ _)
   | (with_reducible exact ih1 _ _ _ _ _ _ _)
   | (with_reducible exact ih2 _ _ _ _ _ _ _ _)
   | (with_reducible exact ih3 _ _ _ _ _ _ _ _)
   | (with_reducible exact ih4 _ _ _ _ _ _ _ _ _)
   | (with_reducible exact LeO.refl _)
   | (with_reducible exact LeO.none _)
   | (with_reducible refine LeO.ite ?_ ?_)
   | (with_reducible refine LeO.bind ?_ (fun _ => ?_))
   | exact ih0 _ _ _ _ _ _ _
   | exact ih1 _ _ _ _ _ _ _
   | exact ih2 _ _ _ _ _ _ _ _
   | exact ih3 _ _ _ _ _ _ _ _
   | exact ih4 _ _ _ _ _ _ _ _ _
   | exact LeO.none _
   | refine LeO.ite ?_ ?_
   | refine LeO.bind ?_ (fun _ => ?_)
theorem walkmilllaw04_Morning_day.mono : ∀ a0 a1 a2 k, LeO (walkmilllaw04_Morning_day.f k a0 a1 a2) (walkmilllaw04_Morning_day.f (k + 1) a0 a1 a2) := by
 intro a0 a1 a2 k
 obtain ⟨ih0, ih1, ih2, ih3, ih4⟩ := walkmilllaw04_Morning_day.mono_l k
 unfold walkmilllaw04_Morning_day.f
 repeat' first
   | (with_reducible exact ih0 _ _ _ _ _ _ _)
   | (with_reducible exact ih1 _ _ _ _ _ _ _)
   | (with_reducible exact ih2 _ _ _ _ _ _ _ _)
   | (with_reducible exact ih3 _ _ _ _ _ _ _ _)
   | (with_reducible exact ih4 _ _ _ _ _ _ _ _ _)
   | (with_reducible exact LeO.refl _)
   | (with_reducible exact LeO.none _)
   | (with_reducible refine LeO.ite ?_ ?_)
   | (with_reducible refine LeO.bind ?_ (fun _ => ?_))
   | exact ih0 _ _ _ _ _ _ _
   | exact ih1 _ _ _ _ _ _ _
   | exact ih2 _ _ _ _ _ _ _ _
   | exact ih3 _ _ _ _ _ _ _ _
   | exact ih4 _ _ _ _ _ _ _ _ _
   | exact LeO.none _
   | refine LeO.ite ?_ ?_
   | refine LeO.bind ?_ (fun _ => ?_)
def walkmilllaw04_Morning_day.T1 : Bool × List (List Nat × List Nat) := (true, [([], []), ([], []), ([1], [1]), ([2], [2]), ([3], [3]), ([4], [4]), ([], []), ([6, 0, 0, 6], [0, 6]), ([5, 7, 0, 1, 2, 3, 4, 5, 6, 7], [5]), ([8, 0, 1, 2, 3, 4, 5, 6, 7, 8], [])])
def walkmilllaw04_Morning_day.B1 : List Nat := [0, 0, 2, 6, 14, 30, 0, 65, 255, 511]
theorem walkmilllaw04_Morning_day.tab1 : rtab .any (opsOf Tryz.f48 1) = walkmilllaw04_Morning_day.T1 := by kernel_rfl
theorem walkmilllaw04_Morning_day.bits1 : waitsOk walkmilllaw04_Morning_day.T1.2 walkmilllaw04_Morning_day.B1 = true := by kernel_rfl
def walkmilllaw04_Morning_day.T9 : Bool × List (List Nat × List Nat) := (true, [([], []), ([], []), ([0, 1], [0, 1]), ([], []), ([3], [3]), ([], []), ([4, 5], [4, 5]), ([6], [6]), ([7], [7]), ([], []), ([8, 9], [8, 9]), ([2, 0, 1, 2], [2]), ([10, 11, 0, 1, 2, 3, 4, 5, 6, 7, 8, 9, 10, 11], [10])])
def walkmilllaw04_Morning_day.B9 : List Nat := [0, 0, 3, 0, 8, 0, 56, 120, 248, 0, 1016, 7, 4095]
theorem walkmilllaw04_Morning_day.tab9 : rtab .any (opsOf Tryz.f48 9) = walkmilllaw04_Morning_day.T9 := by kernel_rfl
theorem walkmilllaw04_Morning_day.bits9 : waitsOk walkmilllaw04_Morning_day.T9.2 walkmilllaw04_Morning_day.B9 = true := by kernel_rfl
def walkmilllaw04_Morning_day.T11 : Bool × List (List Nat × List Nat) := (true, [([], []), ([0], [0]), ([], []), ([], []), ([3], [3]), ([], []), ([4, 5], [4, 5]), ([6], [6]), ([1, 2, 0, 1, 2, 3, 4, 5, 6, 7], [1, 2]), ([8, 7, 0, 1, 2, 3, 4, 5, 6, 7], [7, 8])])
def walkmilllaw04_Morning_day.B11 : List Nat := [0, 1, 0, 0, 8, 0, 56, 120, 255, 511]
theorem walkmilllaw04_Morning_day.tab11 : rtab .any (opsOf Tryz.f48 11) = walkmilllaw04_Morning_day.T11 := by kernel_rfl
theorem walkmilllaw04_Morning_day.bits11 : waitsOk walkmilllaw04_Morning_day.T11.2 walkmilllaw04_Morning_day.B11 = true := by kernel_rfl
def walkmilllaw04_Morning_day.T20 : Bool × List (List Nat × List Nat) := (true, [([], []), ([0], [0]), ([], []), ([2], [2]), ([3], [3]), ([], []), ([4, 5], [4, 5]), ([], []), ([], []), ([], []), ([], []), ([10], [10]), ([11], [11]), ([12], [12]), ([9, 13], [9, 13]), ([14], [14]), ([8, 15], [8, 15]), ([6, 7, 16], [6, 7, 16]), ([17], [17]), ([1, 18, 16], [1, 18]), ([0, 1, 2, 3, 4, 5, 6, 7, 8, 9, 10, 11, 12, 13, 14, 15, 16, 17, 18, 19], []), ([20, 19, 19, 0, 1, 2, 3, 4, 5, 6, 7, 8, 9, 10, 11, 12, 13, 14, 15, 16, 17, 18, 19], [19, 20])])
def walkmilllaw04_Morning_day.B20 : List Nat := [0, 1, 0, 4, 12, 0, 60, 0, 0, 0, 0, 1024, 3072, 7168, 15872, 32256, 65280, 131068, 262140, 524287, 1048575, 2097151]
theorem walkmilllaw04_Morning_day.tab20 : rtab .any (opsOf Tryz.f48 20) = walkmilllaw04_Morning_day.T20 := by kernel_rfl
theorem walkmilllaw04_Morning_day.bits20 : waitsOk walkmilllaw04_Morning_day.T20.2 walkmilllaw04_Morning_day.B20 = true := by kernel_rfl
set_option maxHeartbeats 8000000 in
set_option maxRecDepth 100000 in
theorem walkmilllaw04_Morning_day.calls (k : Nat) (A0_0 : Option Addr) (c0_0 : Nat) (l0_0 : List (S126)) (a0_1 : Int) (A0_2 : Option Addr) (c0_2 : Nat) (l0_2 : List Int) (r1 : List (S67)) (r2 : List Int) (w : World) (hr0_0 : Kd.C k126 w A0_0 l0_0.length l0_0) (hc0_0 : l0_0.length ≤ c0_0) (hr0_2 : Kd.C (Kd.int .u8) w A0_2 l0_2.length l0_2) (hc0_2 : l0_2.length ≤ c0_2) (h : walkmilllaw04_Morning_day.f k l0_0 a0_1 l0_2 = some (r1, r2)) :
  Calls Tryz.prog 48 #[.agg #[.slice A0_0 l0_0.length c0_0, .int .u8 a0_1, .slice A0_2 l0_2.length c0_2]] w fun e w' => ∃ v0_ v1_ : Value, e = .returned (.agg #[v0_, v1_]) ∧ Kd.R k67 67 w' w.heap.size (fun _ => True) v0_ r1 ∧ Kd.R (Kd.int .i64) 3 w' w.heap.size (fun _ => True) v1_ r2 ∧ Below w.heap.size w w' := by
 have hu76 := Tryz.underlying76
 have hu25 := Tryz.underlying25
 have hu126 := Tryz.underlying126
 have hu67 := Tryz.underlying67
 have HR0_0 := Aside0.mk hr0_0
 have HC0_0 := Aside0.mk hc0_0
 clear hr0_0 hc0_0
 have HR0_2 := Aside0.mk hr0_2
 have HC0_2 := Aside0.mk hc0_2
 clear hr0_2 hc0_2
 have HB := Aside0.mk (Below.refl w.heap.size w)
 have H : (walkmilllaw04_Morning_day.l0 k (wrap64 (1 + (Int.tmod (wrap64 (a0_1)) 4))) 0 0 l0_0 a0_1 l0_2 ([] : List Int)) = some (r1, r2) := h
 clear h
 have H' := Aside0.mk H
 clear H
 go_enter Tryz.func48, Tryz.ntmps48
 try go_wp2_with (first | ((with_reducible refine gate_dst (N := 1) rfl ?_); refine bx 1 #[.slice A0_0 l0_0.length c0_0, .int .u8 a0_1, .slice A0_2 l0_2.length c0_2] 76 ?_; intro gb101 hg w2 hbox hb; have BK101 := hbox; have GW101 := gs HB hg; have GE101 := gs HB hg; replace HB := bs HB hb; clear hb hbox hg) | ((with_reducible refine gate_dst (N := 2) rfl ?_); refine bx 2 #[.slice none 0 0, .slice none 0 0] 25 ?_; intro gb102 hg w3 hbox hb; have BK102 := hbox; have GW102 := gs HB hg; have GE102 := gs HB hg; replace HB := bs HB hb; have NB101_102 := nl BK101 hg; have NB102_101 := nr BK101 hg; replace BK101 := bb BK101 hb; clear hb hbox hg))
 replace BK101 := Aside0.mk (blk_drew BK101.out)
 replace BK102 := Aside0.mk (blk_drew BK102.out)
 replace HB := Aside0.mk (below_drew1 HB.out)
 refine start_ (n := 10) (S := fun w' => w'.cell? ⟨gb101, 0, none⟩ = some (.slice A0_0 l0_0.length c0_0) ∧ w'.cell? ⟨gb101, 1, none⟩ = some (.int .u8 a0_1) ∧ w'.cell? ⟨gb101, 2, none⟩ = some (.slice A0_2 l0_2.length c0_2)) (ds := []) #[false, false, false, false, false, false, false, false, false, false] (by kernel_rfl) rfl rfl ⟨(blk_cell BK101.out 0).trans rfl, (blk_cell BK101.out 1).trans rfl, (blk_cell BK101.out 2).trans rfl⟩ (fun hHeld => ?_); refine with_tabW walkmilllaw04_Morning_day.tab1 walkmilllaw04_Morning_day.bits1 (fun HT_ HW_ => ?_)
 generalize w3.drew = w4 at BK101 BK102 HB hHeld ⊢
 refine pu 0 14 ?_
 refine pu 1 15 ?_
 refine tk 2 16 hHeld ?_
 refine pu 3 17 ?_
 refine pu 4 18 ?_
 refine pu 5 19 ?_
 refine on 6 (fun K hK => ?_)
 refine box_step ?hg (N := 3) ?hd (cs := #[.slice none 0 0, .slice none 0 0]) (t := 25) ?hr ?_; (case hd => rfl); (case hg => rfl); (case hr => first | (go_simp; done) | (go_simp; rfl))
 intro gb103 hg w5 hbox hb
 have BK103 := Aside0.mk (hbox)
 have GW103 := gs HB hg
 have GE103 := gs HB hg
 replace HB := bs HB hb
 have NB101_103 := nl BK101 hg
 have NB103_101 := nr BK101 hg
 replace BK101 := bb BK101 hb
 have NB102_103 := nl BK102 hg
 have NB103_102 := nr BK102 hg
 replace BK102 := bb BK102 hb
 clear hb hbox hg
 refine hK.out _ _ ⟨(blk_cell BK101.out 0).trans rfl, (blk_cell BK101.out 1).trans rfl, (blk_cell BK101.out 2).trans rfl⟩ (fun hHeld => ?_)
 clear hK K
 refine norm_ (a' := ?_) ?_ ?_
 rotate_left
 ·show Act.put _ (some 3) _ = _
  simp only [Act.put, List.setIfInBounds_toArray, List.set_cons_zero, List.set_cons_succ, i64_w, i32_w]
  rfl
 refine on 7 (fun K hK => ?_)
 have hs6 : w5.cell? ⟨gb103, 0, none⟩ = some (.slice none 0 0) := (blk_cell BK103.out 0).trans rfl
 have hfs6 := blk_frozen BK103.out 0
 have hns6_0 := NB101_103.out
 have hns6_1 := NB102_103.out
 have hms6_0 := NB103_101.out
 have hms6_1 := NB103_102.out
 have hs7 : w5.cell? ⟨gb103, 1, none⟩ = some (.slice none 0 0) := (blk_cell BK103.out 1).trans rfl
 have hfs7 := blk_frozen BK103.out 1
 have hns7_0 := NB101_103.out
 have hns7_1 := NB102_103.out
 have hms7_0 := NB103_101.out
 have hms7_1 := NB103_102.out
 refine skip_ (w1 := ?_) (by rfl) rfl ?_ ?_
 rotate_left
 ·go_simp
  rfl
 refine hK.out _ _ ⟨((cell_far (p := ⟨gb103, _, none⟩) NB101_103.out _).trans (((cell_far (p := ⟨gb103, _, none⟩) NB101_103.out _).trans (hHeld.1)))), ((cell_far (p := ⟨gb103, _, none⟩) NB101_103.out _).trans (((cell_far (p := ⟨gb103, _, none⟩) NB101_103.out _).trans (hHeld.2.1)))), ((cell_far (p := ⟨gb103, _, none⟩) NB101_103.out _).trans (((cell_far (p := ⟨gb103, _, none⟩) NB101_103.out _).trans (hHeld.2.2))))⟩ (fun hHeld => ?_)
 clear hK K
 refine pu 8 4 ?_
 refine pu 9 5 ?_
 refine done_ (done_of HT_.out (by kernel_rfl)) ?_
 try go_wp2
 go_loopg [6] k (fun kq v6 w' => ∃ (x6_1 : Int) (x104001_1 : List Int) (u104001 : Value), v6 = .int .i64 x6_1 ∧ Aside0 (walkmilllaw04_Morning_day.l0 kq (wrap64 (1 + (Int.tmod (wrap64 (a0_1)) 4))) 0 x6_1 l0_0 a0_1 l0_2 x104001_1 = some (r1, r2)) ∧ Aside0 (kq ≤ k) ∧ Aside0 (Kd.R (Kd.int .i64) 3 w' w.heap.size (fun _ => True) u104001 x104001_1) ∧ Aside0 (w'.heap[gb101]? = some (.cells #[(.slice A0_0 l0_0.length c0_0), .int .u8 a0_1, (.slice A0_2 l0_2.length c0_2)] 76 (0, 0))) ∧ Aside0 (w'.heap[gb102]? = some (.cells #[(.slice none 0 0), (.slice none 0 0)] 25 (0, 0))) ∧ Aside0 (w'.heap[gb103]? = some (.cells #[(.slice none 0 0), u104001] 25 (0, 0))) ∧ Aside0 (Below w.heap.size w w'))
 case atStart => exact ⟨(0), (([] : List Int)), (.slice none 0 0), (by first | rfl | (simp; done) | (simp [*]; done)), H', ⟨Nat.le_refl _⟩, ⟨by first | exact Kd.R_nil _ _ _ _ _ | exact Kd.N_nil _ _ _ _ _ | exact Kd.V_nil _ _ _ _ _ | exact Kd.Q_nil _ _ _ _ _ | exact Kd.S_nil _ _ _ _ _⟩, ⟨pF BK101⟩, ⟨pF BK102⟩, ⟨by refine pB ?_; refine blk_put (cs := #[.slice none 0 0, .slice none 0 0]) ?_ 1 _ rfl; refine pB ?_; refine blk_put (cs := #[.slice none 0 0, .slice none 0 0]) ?_ 0 _ rfl; exact pB BK103.out⟩, ⟨pE HB⟩⟩
 case round =>
  clear H'
  try clear p2
  try clear c4
  try clear p6
  obtain ⟨x6_1, x104001_1, u104001, rfl, HA, HK1, HO_104001, BK101, BK102, BK103, HB⟩ := hrel
  cases gk with
  | zero => exact absurd HA.out (by simp [walkmilllaw04_Morning_day.l0])
  | succ k1 =>
   have H := HA.out
   clear HA
   simp only [walkmilllaw04_Morning_day.l0] at H
   by_cases c8 : x6_1 < (wrap64 (1 + (Int.tmod (wrap64 (a0_1)) 4)))
   ·rw [if_pos c8] at H
    have c8b0 : decide (x6_1 < (wrap64 (1 + (Int.tmod (wrap64 (a0_1)) 4)))) = true := decide_eq_true c8
    clear c8
    by_cases c9 : x104001_1.length < 17592186044416
    ·rw [if_pos c9] at H
     have LMc9 := Aside0.mk c9
     clear c9
     obtain ⟨y104, hy104⟩ : ∃ y_ : List Int, y_ = (x104001_1 ++ [x6_1]) := ⟨_, rfl⟩
     replace H : (walkmilllaw04_Morning_day.l0 k1 (wrap64 (1 + (Int.tmod (wrap64 (a0_1)) 4))) 0 (wrap64 (x6_1 + 1)) l0_0 a0_1 l0_2 y104) = some (r1, r2) := yy hy104 H
     have Ny104 := Aside0.mk hy104
     clear hy104
     have H' := Aside0.mk H
     clear H
     have hnb10 := NB103_101.out
     have hnc10 := NB101_103.out
     have hnb11 := NB103_102.out
     have hnc11 := NB102_103.out
     obtain ⟨hcz12_0, hcz12_1, hfz12_0, hfz12_1⟩ := cf2 BK103
     go_wp2_with (first | ((with_reducible refine gate_builtin (b := .append) (xs := #[.tmp 26, .tmp 28]) rfl ?_); at_builtin; refine Kd.R_append (Kd.int .i64) (w0 := w) w.heap.size rfl (.tmp 26) (.tmp 28) 23 3 (.int .i64 0) 8 rfl Tryz.underlying23 info3 rfl (by decide) (by omega) u104001 x104001_1 x6_1 [.int .i64 x6_1] (fun _ => True) (fun _ => False) rfl rfl ?aP (fun _ hk => hk.elim) ?aF ?aO ?aB ?aS ?aL ?_; (case aP => exact rfl); (case aB => exact (pE HB)); (case aF => exact (fun _ _ => trivial)); (case aO => exact (pR HO_104001.out)); (case aS => exact (below_size (pE HB))); (case aL => have := LMc9.out; omega); intro v105 w13 ho hb hg hat; rw [← Ny104.out] at ho; replace BK101 := Aside0.mk (blk_grown (g := gb101) (o := .cells #[.slice A0_0 l0_0.length c0_0, .int .u8 a0_1, .slice A0_2 l0_2.length c0_2] 76 (0, 0)) (pB BK101.out) hg (Kd.R_ne HO_104001.out BK101.out (by decide))); replace BK102 := Aside0.mk (blk_grown (g := gb102) (o := .cells #[.slice none 0 0, .slice none 0 0] 25 (0, 0)) (pB BK102.out) hg (Kd.R_ne HO_104001.out BK102.out (by decide))); replace BK103 := Aside0.mk (blk_grown (g := gb103) (o := .cells #[.slice none 0 0, u104001] 25 (0, 0)) (pB BK103.out) hg (Kd.R_ne HO_104001.out BK103.out (by decide))); replace HB := Aside0.mk (hb); have HO106 := Aside0.mk (ho); clear HO_104001; clear ho hb hg hat; obtain ⟨Ao14, co14, eo14⟩ := Kd.R_slice HO106.out; subst eo14; obtain ⟨hcz15_0, hcz15_1, hfz15_0, hfz15_1⟩ := cf2 BK103))
     go_roundg k1
     case measure => have := HK1.out; omega
     case rel => exact ⟨(wrap64 (x6_1 + 1)), (y104), (.slice Ao14 y104.length co14), (by first | rfl | (simp; done) | (simp [*]; done)), H', ⟨by have := HK1.out; omega⟩, ⟨by (with_reducible repeat (first | apply Kd.R_alloc | apply Kd.R_drewN | apply Kd.R_drew)); exact Kd.R_mono (Kd.R_far (p := ⟨gb103, 1, none⟩) (Kd.R_types HO106.out BK103.out (by decide)) (fun _ hk => hk.2) (.slice Ao14 y104.length co14)) (fun _ hk => trivial)⟩, ⟨pF BK101⟩, ⟨pF BK102⟩, ⟨by refine pB ?_; refine blk_put (cs := #[.slice none 0 0, u104001]) ?_ 1 _ rfl; exact pB BK103.out⟩, ⟨pE HB⟩⟩
    ·rw [if_neg c9] at H
     exact absurd H (by simp)
   ·rw [if_neg c8] at H
    have c8b0 : decide (x6_1 < (wrap64 (1 + (Int.tmod (wrap64 (a0_1)) 4)))) = false := decide_eq_false c8
    clear c8
    have H' := Aside0.mk H
    clear H
    go_wp2
    go_loopg [7] k1 (fun kq v7 w' => ∃ (x7_2 : Int) (x104001_2 : List Int) (u104001 : Value), v7 = .int .i64 x7_2 ∧ Aside0 (walkmilllaw04_Morning_day.l1 kq (wrap64 (1 + (Int.tmod (wrap64 (a0_1)) 4))) 0 x7_2 l0_0 a0_1 l0_2 x104001_2 = some (r1, r2)) ∧ Aside0 (kq ≤ k1) ∧ Aside0 (Kd.R (Kd.int .i64) 3 w' w.heap.size (fun _ => True) u104001 x104001_2) ∧ Aside0 (w'.heap[gb101]? = some (.cells #[(.slice A0_0 l0_0.length c0_0), .int .u8 a0_1, (.slice A0_2 l0_2.length c0_2)] 76 (0, 0))) ∧ Aside0 (w'.heap[gb102]? = some (.cells #[(.slice none 0 0), (.slice none 0 0)] 25 (0, 0))) ∧ Aside0 (w'.heap[gb103]? = some (.cells #[(.slice none 0 0), u104001] 25 (0, 0))) ∧ Aside0 (Below w.heap.size w w'))
    case atStart => exact ⟨(0), (x104001_1), (u104001), (by first | rfl | (simp; done) | (simp [*]; done)), H', ⟨Nat.le_refl _⟩, ⟨pR HO_104001.out⟩, ⟨pB BK101.out⟩, ⟨pB BK102.out⟩, ⟨pB BK103.out⟩, ⟨pE HB⟩⟩
    case round =>
     clear H'
     try clear c1
     try clear p2
     try clear c4
     try clear p6
     try clear c8
     try clear c8b0
     try clear c9
     try clear c10
     try clear c11
     try clear hcz12_0
     try clear hcz12_1
     try clear hcz15_0
     try clear hcz15_1
     try clear hfz12_0
     try clear hfz12_1
     try clear hfz15_0
     try clear hfz15_1
     try clear p2
     try clear p6
     obtain ⟨x7_2, x104001_2, u104001, rfl, HA, HK2, HO_104001, BK101, BK102, BK103, HB⟩ := hrel
     cases gk with
     | zero => exact absurd HA.out (by simp [walkmilllaw04_Morning_day.l1])
     | succ k2 =>
      have H := HA.out
      clear HA
      simp only [walkmilllaw04_Morning_day.l1] at H
      have HC16 := Aside0.mk H
      clear H
      go_upto_region 7 with (fail)
      go_cut [39] (fun v39 wc => ∃ (kq : Nat) (x39_15 : Bool), v39 = .bool x39_15 ∧ Aside0 (walkmilllaw04_Morning_day.j2 kq (wrap64 (1 + (Int.tmod (wrap64 (a0_1)) 4))) 0 x7_2 x39_15 l0_0 a0_1 l0_2 x104001_2 = some (r1, r2)) ∧ Aside0 (kq ≤ k2) ∧ Aside0 (Kd.R (Kd.int .i64) 3 wc w.heap.size (fun _ => True) u104001 x104001_2) ∧ Aside0 (wc.heap[gb101]? = some (.cells #[(.slice A0_0 l0_0.length c0_0), .int .u8 a0_1, (.slice A0_2 l0_2.length c0_2)] 76 (0, 0))) ∧ Aside0 (wc.heap[gb102]? = some (.cells #[(.slice none 0 0), (.slice none 0 0)] 25 (0, 0))) ∧ Aside0 (wc.heap[gb103]? = some (.cells #[(.slice none 0 0), u104001] 25 (0, 0))) ∧ Aside0 (Below w.heap.size w wc))
      case first =>
       have H := HC16.out
       clear HC16
       by_cases c17 : x7_2 < (l0_2.length : Int)
       ·rw [if_pos c17] at H
        have c17b0 : decide (x7_2 < (l0_2.length : Int)) = true := decide_eq_true c17
        clear c17
        (first | rw [c17b0] | (simp only [i64_w, i32_w]; rw [c17b0]) | skip)
        have H' := Aside0.mk H
        clear H
        have hnb18 := NB101_102.out
        have hnc18 := NB102_101.out
        have hnb19 := NB101_103.out
        have hnc19 := NB103_101.out
        obtain ⟨hcz20_0, hcz20_1, hcz20_2, hfz20_0, hfz20_1, hfz20_2⟩ := cf3 BK101
        go_wp2
        go_meet
        case rel => exact ⟨_, (decide (x7_2 < 4)), (by first | rfl | (simp; done) | (simp [*]; done)), H', ⟨by have := HK1.out; have := HK2.out; first | omega | exact Nat.le_refl _⟩, ⟨pR HO_104001.out⟩, ⟨pB BK101.out⟩, ⟨pB BK102.out⟩, ⟨pB BK103.out⟩, ⟨pE HB⟩⟩
       ·rw [if_neg c17] at H
        have c17b0 : decide (x7_2 < (l0_2.length : Int)) = false := decide_eq_false c17
        clear c17
        (first | rw [c17b0] | (simp only [i64_w, i32_w]; rw [c17b0]) | skip)
        have H' := Aside0.mk H
        clear H
        have hnb21 := NB101_102.out
        have hnc21 := NB102_101.out
        have hnb22 := NB101_103.out
        have hnc22 := NB103_101.out
        obtain ⟨hcz23_0, hcz23_1, hcz23_2, hfz23_0, hfz23_1, hfz23_2⟩ := cf3 BK101
        go_wp2
        go_meet
        case rel => exact ⟨_, (false), (by first | rfl | (simp; done) | (simp [*]; done)), H', ⟨by have := HK1.out; have := HK2.out; first | omega | exact Nat.le_refl _⟩, ⟨pR HO_104001.out⟩, ⟨pB BK101.out⟩, ⟨pB BK102.out⟩, ⟨pB BK103.out⟩, ⟨pE HB⟩⟩
      case rest =>
       clear HC16
       try clear c1
       try clear c2
       try clear p2
       try clear c4
       try clear p6
       try clear c8
       try clear c8b0
       try clear c9
       try clear c10
       try clear c11
       try clear c17
       try clear c17b0
       try clear c18
       try clear c19
       try clear c21
       try clear c22
       try clear hcz12_0
       try clear hcz12_1
       try clear hcz15_0
       try clear hcz15_1
       try clear hcz20_0
       try clear hcz20_1
       try clear hcz20_2
       try clear hcz23_0
       try clear hcz23_1
       try clear hcz23_2
       try clear hfz12_0
       try clear hfz12_1
       try clear hfz15_0
       try clear hfz15_1
       try clear hfz20_0
       try clear hfz20_1
       try clear hfz20_2
       try clear hfz23_0
       try clear hfz23_1
       try clear hfz23_2
       try clear p2
       try clear p6
       obtain ⟨kq, x39_15, rfl, HA, HJ15, HO_104001, BK101, BK102, BK103, HB⟩ := hcut
       cases kq with
       | zero => exact absurd HA.out (by simp [walkmilllaw04_Morning_day.j2])
       | succ kj15 =>
        have H := HA.out
        clear HA
        simp only [walkmilllaw04_Morning_day.j2] at H
        by_cases c24 : x39_15 = true
        ·subst c24
         rw [if_pos rfl] at H
         by_cases c25 : (wrap64 (1 + (Int.tmod (wrap64 (a0_1)) 4))) = 0
         ·rw [if_pos c25] at H
          exact absurd H (by simp)
         ·rw [if_neg c25] at H
          have c25b0 : ((wrap64 (1 + (Int.tmod (wrap64 (a0_1)) 4))) == 0) = false := beq_eq_false_iff_ne.mpr c25
          have c25b1 : ((wrap64 (1 + (Int.tmod (wrap64 (a0_1)) 4))) != 0) = true := bne_iff_ne.mpr c25
          by_cases c26 : 0 ≤ x7_2
          ·rw [if_pos c26] at H
           have c26b0 : decide (0 ≤ x7_2) = true := decide_eq_true c26
           clear c26
           by_cases c27 : x7_2 < (l0_2.length : Int)
           ·rw [if_pos c27] at H
            have c27b0 : decide (x7_2 < (l0_2.length : Int)) = true := decide_eq_true c27
            clear c27
            obtain ⟨ji28, hji28⟩ : ∃ j_ : Int, (Int.tmod x7_2 (wrap64 (1 + (Int.tmod (wrap64 (a0_1)) 4)))) = j_ := ⟨_, rfl⟩
            replace H : (if 0 ≤ (ji28) then (if (ji28) < (x104001_2.length : Int) then (if 0 ≤ (Int.tmod (wrap64 (rd l0_2 x7_2)) (wrap64 (1 + (Int.tmod (wrap64 (a0_1)) 4)))) then (if (Int.tmod (wrap64 (rd l0_2 x7_2)) (wrap64 (1 + (Int.tmod (wrap64 (a0_1)) 4)))) < (x104001_2.length : Int) then (walkmilllaw04_Morning_day.l1 kj15 (wrap64 (1 + (Int.tmod (wrap64 (a0_1)) 4))) 0 (wrap64 (x7_2 + 1)) l0_0 a0_1 l0_2 ((x104001_2.set ((ji28) : Int).toNat (rd x104001_2 (Int.tmod (wrap64 (rd l0_2 x7_2)) (wrap64 (1 + (Int.tmod (wrap64 (a0_1)) 4)))))).set ((Int.tmod (wrap64 (rd l0_2 x7_2)) (wrap64 (1 + (Int.tmod (wrap64 (a0_1)) 4)))) : Int).toNat (rd x104001_2 (ji28)))) else (none)) else (none)) else (none)) else (none)) = some (r1, r2) := by first | (rw [hji28] at H; exact H) | (simp only [hji28] at H ⊢; exact H)
            by_cases c29 : 0 ≤ (ji28)
            ·rw [if_pos c29] at H
             have c29b0 : decide (0 ≤ (ji28)) = true := decide_eq_true c29
             clear c29
             by_cases c30 : (ji28) < (x104001_2.length : Int)
             ·rw [if_pos c30] at H
              have c30b0 : decide ((ji28) < (x104001_2.length : Int)) = true := decide_eq_true c30
              clear c30
              obtain ⟨ji31, hji31⟩ : ∃ j_ : Int, (Int.tmod (wrap64 (rd l0_2 x7_2)) (wrap64 (1 + (Int.tmod (wrap64 (a0_1)) 4)))) = j_ := ⟨_, rfl⟩
              replace H : (if 0 ≤ (ji31) then (if (ji31) < (x104001_2.length : Int) then (walkmilllaw04_Morning_day.l1 kj15 (wrap64 (1 + (Int.tmod (wrap64 (a0_1)) 4))) 0 (wrap64 (x7_2 + 1)) l0_0 a0_1 l0_2 ((x104001_2.set ((ji28) : Int).toNat (rd x104001_2 (ji31))).set ((ji31) : Int).toNat (rd x104001_2 (ji28)))) else (none)) else (none)) = some (r1, r2) := by first | (rw [hji31] at H; exact H) | (simp only [hji31] at H ⊢; exact H)
              by_cases c32 : 0 ≤ (ji31)
              ·rw [if_pos c32] at H
               have c32b0 : decide (0 ≤ (ji31)) = true := decide_eq_true c32
               clear c32
               by_cases c33 : (ji31) < (x104001_2.length : Int)
               ·rw [if_pos c33] at H
                have c33b0 : decide ((ji31) < (x104001_2.length : Int)) = true := decide_eq_true c33
                clear c33
                obtain ⟨y110, hy110⟩ : ∃ y_ : List Int, y_ = (x104001_2.set ((ji28) : Int).toNat (rd x104001_2 (ji31))) := ⟨_, rfl⟩
                replace H : (walkmilllaw04_Morning_day.l1 kj15 (wrap64 (1 + (Int.tmod (wrap64 (a0_1)) 4))) 0 (wrap64 (x7_2 + 1)) l0_0 a0_1 l0_2 (y110.set ((ji31) : Int).toNat (rd x104001_2 (ji28)))) = some (r1, r2) := yy hy110 H
                have Ny110 := Aside0.mk hy110
                clear hy110
                obtain ⟨y111, hy111⟩ : ∃ y_ : List Int, y_ = (y110.set ((ji31) : Int).toNat (rd x104001_2 (ji28))) := ⟨_, rfl⟩
                replace H : (walkmilllaw04_Morning_day.l1 kj15 (wrap64 (1 + (Int.tmod (wrap64 (a0_1)) 4))) 0 (wrap64 (x7_2 + 1)) l0_0 a0_1 l0_2 y111) = some (r1, r2) := yy hy111 H
                have Ny111 := Aside0.mk hy111
                clear hy111
                have H' := Aside0.mk H
                clear H
                try go_wp2
                replace HO_104001 := Aside0.mk (Kd.R_drew HO_104001.out)
                replace BK101 := Aside0.mk (blk_drew BK101.out)
                replace BK102 := Aside0.mk (blk_drew BK102.out)
                replace BK103 := Aside0.mk (blk_drew BK103.out)
                replace HB := Aside0.mk (below_drew1 HB.out)
                have p107 : 0 ≤ (x7_2 : Int) := dT
                have q107 : x7_2 < (l0_2.length : Int) := dT
                obtain ⟨ad107, e107, hx107_0⟩ := Kd.at_int HR0_2.out x7_2 p107 q107
                have hw107_0 := hx107_0
                cases e107
                replace hx107_0 := cut_ HB hx107_0
                replace p107 := eq_true p107
                replace q107 := eq_true q107
                refine start_ (n := 13) (S := fun w' => w'.cell? ⟨gb101, 0, none⟩ = some (.slice A0_0 l0_0.length c0_0) ∧ w'.cell? ⟨gb101, 1, none⟩ = some (.int .u8 a0_1) ∧ w'.cell? ⟨gb101, 2, none⟩ = some (.slice (some ad107) l0_2.length c0_2) ∧ w'.cell? (ad107.add (x7_2).toNat) = some (.int .u8 (rd l0_2 x7_2))) (ds := []) #[false, false, false, false, false, false, false, false, false, false, false, false, false] (by kernel_rfl) rfl rfl ⟨(blk_cell BK101.out 0).trans rfl, (blk_cell BK101.out 1).trans rfl, (blk_cell BK101.out 2).trans rfl, (cB HB hw107_0)⟩ (fun hHeld => ?_); refine with_tabW walkmilllaw04_Morning_day.tab9 walkmilllaw04_Morning_day.bits9 (fun HT_ HW_ => ?_)
                generalize wc.drew = w36 at HO_104001 BK101 BK102 BK103 HB hx107_0 hHeld ⊢
                refine pu 0 42 ?_
                refine pu 1 43 ?_
                refine pu 2 44 ?_
                refine pu 3 45 ?_
                refine pu 5 47 ?_
                refine pu 9 51 ?_
                refine pu 11 8 ?_
                refine tk 4 46 hHeld ?_
                refine pu 6 48 ?_
                refine tk 7 49 hHeld ?_
                refine pu 8 50 ?_
                refine pu 10 52 ?_
                refine pu 12 9 ?_
                refine done_ (done_of HT_.out (by kernel_rfl)) ?_
                have hnb37 := NB103_101.out
                have hnc37 := NB101_103.out
                have hnb38 := NB103_102.out
                have hnc38 := NB102_103.out
                obtain ⟨hcz39_0, hcz39_1, hfz39_0, hfz39_1⟩ := cf2 BK103
                obtain ⟨Ao40, co40, eo40⟩ := Kd.R_slice HO_104001.out
                subst eo40
                have p108 : 0 ≤ ((ji28) : Int) := dT
                have q108 : (ji28) < (x104001_2.length : Int) := dT
                obtain ⟨ad108, e108, hx108_0⟩ := Kd.at_int (Kd.R_reads' HO_104001.out).2.2 (ji28) p108 q108
                cases e108
                replace p108 := eq_true p108
                replace q108 := eq_true q108
                try go_wp2
                replace HO_104001 := Aside0.mk (Kd.R_drew HO_104001.out)
                replace BK101 := Aside0.mk (blk_drew BK101.out)
                replace BK102 := Aside0.mk (blk_drew BK102.out)
                replace BK103 := Aside0.mk (blk_drew BK103.out)
                replace HB := Aside0.mk (below_drew1 HB.out)
                have p109 : 0 ≤ ((ji31) : Int) := dT
                have q109 : (ji31) < (x104001_2.length : Int) := dT
                obtain ⟨ad109, e109, hx109_0⟩ := Kd.at_int (Kd.R_reads' HO_104001.out).2.2 (ji31) p109 q109
                obtain rfl : ad108 = ad109 := (by injection e109)
                replace p109 := eq_true p109
                replace q109 := eq_true q109
                have p34 : 0 ≤ ((ji28) : Int) := dT
                have q34 : ((ji28) : Int) < ((x104001_2.length : Int) : Int) := dT
                obtain ⟨go34, co34, eo34, gb34, gl34, cl34, HG34⟩ := Kd.R_form HO_104001.out (by omega)
                (first | cases eo34 | (injection eo34 with ea_ en_ ec_; (first | subst ea_ | (injection ea_ with ea_; subst ea_)); subst ec_; clear en_))
                have GB34 := Aside0.mk gb34
                have GG34 := Aside0.mk HG34
                clear gb34 gl34 HG34
                (first | simp only [add_plain] at hx108_0 | skip)
                (first | simp only [add_plain] at hx109_0 | skip)
                obtain ⟨hx34_0, hf34_0⟩ := Kd.R_celln 0 HO_104001.out ((ji28) : Int) p34 q34
                replace p34 := eq_true p34
                replace q34 := eq_true q34
                have HP42 := Kd.R_putn HO_104001.out ((ji28) : Int) (rd x104001_2 (ji31))
                rw [← Ny110.out] at HP42
                have HQ42 := Aside0.mk HP42
                clear HP42
                refine start_ (n := 10) (S := fun w' => w'.cell? ⟨gb103, 0, none⟩ = some (.slice none 0 0) ∧ w'.cell? ⟨gb103, 1, none⟩ = some (.slice (some ⟨go34, 0, none⟩) x104001_2.length co40) ∧ w'.cell? ⟨go34, ((ji31)).toNat, none⟩ = some (.int .i64 (rd x104001_2 (ji31)))) (ds := [9]) #[false, false, false, false, false, false, false, false, false, false] (by kernel_rfl) rfl rfl ⟨(blk_cell BK103.out 0).trans rfl, (blk_cell BK103.out 1).trans rfl, hx109_0⟩ (fun hHeld => ?_); refine with_tabW walkmilllaw04_Morning_day.tab11 walkmilllaw04_Morning_day.bits11 (fun HT_ HW_ => ?_)
                generalize w36.drew = w41 at HO_104001 BK101 BK102 BK103 HB GG34 HQ42 hf34_0 hx108_0 hx109_0 hx34_0 hHeld ⊢
                refine pu 0 58 ?_
                refine pu 2 60 ?_
                refine pu 3 61 ?_
                refine pu 5 63 ?_
                refine tk 1 59 hHeld ?_
                refine tk 4 62 hHeld ?_
                refine pu 6 64 ?_
                refine tk 7 65 hHeld ?_
                refine pu 8 66 ?_
                refine last_ (i := 9) (N := none) #[true, true, true, true, true, true, true, true, true, true] rfl rfl (one_of HT_.out (by kernel_rfl)) (by decide) (fun K hK => ?_)
                refine skip_ (w1 := ?_) (by rfl) rfl ?_ ?_
                rotate_left
                ·go_simp
                 rfl
                refine hK.out _ _ ?_
                clear hK K
                refine done_ (done_of HT_.out (by kernel_rfl)) ?_
                have n0_ : Aside0 (Kd.R (Kd.int .i64) 3 (w41.setCell ⟨go34, ((ji28) : Int).toNat, none⟩ (.int .i64 (rd x104001_2 (ji31)))) w.heap.size (fun _ => True) (.slice (some ⟨go34, 0, none⟩) x104001_2.length co40) y110) := ⟨pR HQ42.out⟩
                have n1_ : Aside0 ((w41.setCell ⟨go34, ((ji28) : Int).toNat, none⟩ (.int .i64 (rd x104001_2 (ji31)))).heap[gb101]? = some (.cells #[.slice A0_0 l0_0.length c0_0, .int .u8 a0_1, .slice (some ad107) l0_2.length c0_2] 76 (0, 0))) := ⟨by refine pB ?_; refine blk_far ?_ (by have h_ := Kd.R_ne HO_104001.out BK101.out (by decide); intro e_; exact h_ (by rw [e_]; rfl)) _; exact pB BK101.out⟩
                have n2_ : Aside0 ((w41.setCell ⟨go34, ((ji28) : Int).toNat, none⟩ (.int .i64 (rd x104001_2 (ji31)))).heap[gb102]? = some (.cells #[.slice none 0 0, .slice none 0 0] 25 (0, 0))) := ⟨by refine pB ?_; refine blk_far ?_ (by have h_ := Kd.R_ne HO_104001.out BK102.out (by decide); intro e_; exact h_ (by rw [e_]; rfl)) _; exact pB BK102.out⟩
                have n3_ : Aside0 ((w41.setCell ⟨go34, ((ji28) : Int).toNat, none⟩ (.int .i64 (rd x104001_2 (ji31)))).heap[gb103]? = some (.cells #[.slice none 0 0, .slice (some ⟨go34, 0, none⟩) x104001_2.length co40] 25 (0, 0))) := ⟨by refine pB ?_; refine blk_far ?_ (by have h_ := Kd.R_ne HO_104001.out BK103.out (by decide); intro e_; exact h_ (by rw [e_]; rfl)) _; exact pB BK103.out⟩
                have n4_ : Aside0 (Below w.heap.size w (w41.setCell ⟨go34, ((ji28) : Int).toNat, none⟩ (.int .i64 (rd x104001_2 (ji31))))) := ⟨pE HB⟩
                (try clear HO_104001)
                (try clear BK101)
                (try clear BK102)
                (try clear BK103)
                (try clear HB)
                generalize (w41.setCell ⟨go34, ((ji28) : Int).toNat, none⟩ (.int .i64 (rd x104001_2 (ji31)))) = w43 at n0_ n1_ n2_ n3_ n4_ ⊢
                have HO_104001 := n0_
                have BK101 := n1_
                have BK102 := n2_
                have BK103 := n3_
                have HB := n4_
                clear n0_ n1_ n2_ n3_ n4_
                obtain ⟨hcz44_0, hcz44_1, hfz44_0, hfz44_1⟩ := cf2 BK103
                have p35 : 0 ≤ ((ji31) : Int) := dT
                have q35 : ((ji31) : Int) < ((x104001_2.length : Int) : Int) := dT
                obtain ⟨hx35_0, hf35_0⟩ := Kd.R_celln 0 HO_104001.out ((ji31) : Int) p35 q35
                replace p35 := eq_true p35
                replace q35 := eq_true q35
                obtain ⟨hy45_, hz45_⟩ := Kd.R_celln 0 HO_104001.out ((ji31) : Int) (dT) (dT)
                have HP45 := Kd.R_putg HO_104001.out ((ji31) : Int) (rd x104001_2 (ji28))
                try go_wp2_with (first | ((with_reducible refine gate_store (t := 3) (p := 71) rfl ?_); refine store_event (t := 3) (p := 71) (v := ?vo_w46) (w1 := (w43.setCell ⟨go34, ((ji31) : Int).toNat, none⟩ (.int .i64 (rd x104001_2 (ji28))))) ?hg ?ho ?hn ?hr ?_; (case ho => rfl); (case hg => rfl); (case hn => rfl); (case hr => first | (go_simp; done) | (go_simp; rfl)); intro w46 hw; have hg : w43.grownBy w46 (some go34) := (by rw [hw]; exact HP45.2); have hp_ : Kd.R (Kd.int .i64) 3 w46 w.heap.size (fun _ => True) (.slice (some ⟨go34, 0, none⟩) x104001_2.length co40) y111 := (by rw [hw, Ny111.out]; exact HP45.1); clear HP45; replace BK101 := Aside0.mk (blk_grown (g := gb101) (o := .cells #[.slice A0_0 l0_0.length c0_0, .int .u8 a0_1, .slice (some ad107) l0_2.length c0_2] 76 (0, 0)) (pB BK101.out) hg (Kd.R_ne HO_104001.out BK101.out (by decide))); replace BK102 := Aside0.mk (blk_grown (g := gb102) (o := .cells #[.slice none 0 0, .slice none 0 0] 25 (0, 0)) (pB BK102.out) hg (Kd.R_ne HO_104001.out BK102.out (by decide))); replace BK103 := Aside0.mk (blk_grown (g := gb103) (o := .cells #[.slice none 0 0, .slice (some ⟨go34, 0, none⟩) x104001_2.length co40] 25 (0, 0)) (pB BK103.out) hg (Kd.R_ne HO_104001.out BK103.out (by decide))); replace HO_104001 := Aside0.mk (hp_); replace HB := Aside0.mk ((by rw [hw]; exact below_set (HB.out) GB34.out : Below w.heap.size w w46)); clear hg hw hp_))
                go_roundg kj15
                case measure => have := HK1.out; have := HK2.out; have := HJ15.out; omega
                case rel => exact ⟨(wrap64 (x7_2 + 1)), (y111), (.slice (some ⟨go34, 0, none⟩) x104001_2.length co40), (by first | rfl | (simp; done) | (simp [*]; done)), H', ⟨by have := HK1.out; have := HK2.out; have := HJ15.out; omega⟩, ⟨pR HO_104001.out⟩, ⟨pB BK101.out⟩, ⟨pB BK102.out⟩, ⟨pB BK103.out⟩, ⟨pE HB⟩⟩
               ·rw [if_neg c33] at H
                exact absurd H (by simp)
              ·rw [if_neg c32] at H
               exact absurd H (by simp)
             ·rw [if_neg c30] at H
              exact absurd H (by simp)
            ·rw [if_neg c29] at H
             exact absurd H (by simp)
           ·rw [if_neg c27] at H
            exact absurd H (by simp)
          ·rw [if_neg c26] at H
           exact absurd H (by simp)
        ·replace c24 := Bool.eq_false_iff.mpr c24
         subst c24
         rw [if_neg (show ¬ (false = true) by decide)] at H
         have H' := Aside0.mk H
         clear H
         go_wp2
         go_loopg [5, 11] kj15 (fun kq v5 v11 w' => ∃ (x5_4 : Int) (x11_4 : Int) (x104000_4 : List (S67)) (u104000 : Value), v5 = .int .i64 x5_4 ∧ v11 = .int .i64 x11_4 ∧ Aside0 (walkmilllaw04_Morning_day.l2 kq (wrap64 (1 + (Int.tmod (wrap64 (a0_1)) 4))) x5_4 x11_4 l0_0 a0_1 l0_2 x104000_4 x104001_2 = some (r1, r2)) ∧ Aside0 (kq ≤ kj15) ∧ Aside0 (Kd.R k67 67 w' w.heap.size (fun _ => True) u104000 x104000_4) ∧ Aside0 (Kd.R (Kd.int .i64) 3 w' w.heap.size (fun _ => True) u104001 x104001_2) ∧ Aside0 (w'.heap[gb101]? = some (.cells #[(.slice A0_0 l0_0.length c0_0), .int .u8 a0_1, (.slice A0_2 l0_2.length c0_2)] 76 (0, 0))) ∧ Aside0 (w'.heap[gb102]? = some (.cells #[(.slice none 0 0), (.slice none 0 0)] 25 (0, 0))) ∧ Aside0 (w'.heap[gb103]? = some (.cells #[u104000, u104001] 25 (0, 0))) ∧ Aside0 (Below w.heap.size w w'))
         case atStart => exact ⟨(0), (0), (([] : List (S67))), (.slice none 0 0), (by first | rfl | (simp; done) | (simp [*]; done)), (by first | rfl | (simp; done) | (simp [*]; done)), H', ⟨Nat.le_refl _⟩, ⟨by first | exact Kd.R_nil _ _ _ _ _ | exact Kd.N_nil _ _ _ _ _ | exact Kd.V_nil _ _ _ _ _ | exact Kd.Q_nil _ _ _ _ _ | exact Kd.S_nil _ _ _ _ _⟩, ⟨pR HO_104001.out⟩, ⟨pB BK101.out⟩, ⟨pB BK102.out⟩, ⟨pB BK103.out⟩, ⟨pE HB⟩⟩
         case round =>
          clear H'
          try clear c1
          try clear p1
          try clear q1
          try clear hx1
          try clear c2
          try clear p2
          try clear c3
          try clear p3
          try clear q3
          try clear hx3
          try clear hf3
          try clear c4
          try clear p6
          try clear c8
          try clear c8b0
          try clear c9
          try clear c10
          try clear p10
          try clear q10
          try clear hx10
          try clear c11
          try clear c17
          try clear c17b0
          try clear c18
          try clear c19
          try clear c21
          try clear c22
          try clear c24
          try clear c25
          try clear c25b0
          try clear c25b1
          try clear c26
          try clear c26b0
          try clear c27
          try clear c27b0
          try clear c29
          try clear c29b0
          try clear c30
          try clear c30b0
          try clear c32
          try clear c32b0
          try clear c33
          try clear c33b0
          try clear p34
          try clear q34
          try clear hx34
          try clear hf34
          try clear p35
          try clear q35
          try clear hx35
          try clear hf35
          try clear c37
          try clear c38
          try clear hcz12_0
          try clear hcz12_1
          try clear hcz15_0
          try clear hcz15_1
          try clear hcz20_0
          try clear hcz20_1
          try clear hcz20_2
          try clear hcz23_0
          try clear hcz23_1
          try clear hcz23_2
          try clear hcz39_0
          try clear hcz39_1
          try clear hcz44_0
          try clear hcz44_1
          try clear hfz12_0
          try clear hfz12_1
          try clear hfz15_0
          try clear hfz15_1
          try clear hfz20_0
          try clear hfz20_1
          try clear hfz20_2
          try clear hfz23_0
          try clear hfz23_1
          try clear hfz23_2
          try clear hfz39_0
          try clear hfz39_1
          try clear hfz44_0
          try clear hfz44_1
          try clear hx107_0
          try clear hx108_0
          try clear hx109_0
          try clear hx34_0
          try clear hx35_0
          try clear p107
          try clear p108
          try clear p109
          try clear p2
          try clear p34
          try clear p35
          try clear p6
          try clear q107
          try clear q108
          try clear q109
          try clear q34
          try clear q35
          obtain ⟨x5_4, x11_4, x104000_4, u104000, rfl, rfl, HA, HK4, HO_104000, HO_104001, BK101, BK102, BK103, HB⟩ := hrel
          cases gk with
          | zero => exact absurd HA.out (by simp [walkmilllaw04_Morning_day.l2])
          | succ k4 =>
           have H := HA.out
           clear HA
           simp only [walkmilllaw04_Morning_day.l2] at H
           have HC47 := Aside0.mk H
           clear H
           go_upto_region 14 with (fail)
           go_cut [80] (fun v80 wc => ∃ (kq : Nat) (x80_46 : Bool), v80 = .bool x80_46 ∧ Aside0 (walkmilllaw04_Morning_day.j4 kq (wrap64 (1 + (Int.tmod (wrap64 (a0_1)) 4))) x5_4 x11_4 x80_46 l0_0 a0_1 l0_2 x104000_4 x104001_2 = some (r1, r2)) ∧ Aside0 (kq ≤ k4) ∧ Aside0 (Kd.R k67 67 wc w.heap.size (fun _ => True) u104000 x104000_4) ∧ Aside0 (Kd.R (Kd.int .i64) 3 wc w.heap.size (fun _ => True) u104001 x104001_2) ∧ Aside0 (wc.heap[gb101]? = some (.cells #[(.slice A0_0 l0_0.length c0_0), .int .u8 a0_1, (.slice A0_2 l0_2.length c0_2)] 76 (0, 0))) ∧ Aside0 (wc.heap[gb102]? = some (.cells #[(.slice none 0 0), (.slice none 0 0)] 25 (0, 0))) ∧ Aside0 (wc.heap[gb103]? = some (.cells #[u104000, u104001] 25 (0, 0))) ∧ Aside0 (Below w.heap.size w wc))
           case first =>
            have H := HC47.out
            clear HC47
            by_cases c48 : x11_4 < (l0_0.length : Int)
            ·rw [if_pos c48] at H
             have c48b0 : decide (x11_4 < (l0_0.length : Int)) = true := decide_eq_true c48
             clear c48
             (first | rw [c48b0] | (simp only [i64_w, i32_w]; rw [c48b0]) | skip)
             have H' := Aside0.mk H
             clear H
             have hnb49 := NB101_102.out
             have hnc49 := NB102_101.out
             have hnb50 := NB101_103.out
             have hnc50 := NB103_101.out
             obtain ⟨hcz51_0, hcz51_1, hcz51_2, hfz51_0, hfz51_1, hfz51_2⟩ := cf3 BK101
             go_wp2
             go_meet
             case rel => exact ⟨_, (decide (x11_4 < 8)), (by first | rfl | (simp; done) | (simp [*]; done)), H', ⟨by have := HK1.out; have := HK2.out; have := HJ15.out; have := HK4.out; first | omega | exact Nat.le_refl _⟩, ⟨pR HO_104000.out⟩, ⟨pR HO_104001.out⟩, ⟨pB BK101.out⟩, ⟨pB BK102.out⟩, ⟨pB BK103.out⟩, ⟨pE HB⟩⟩
            ·rw [if_neg c48] at H
             have c48b0 : decide (x11_4 < (l0_0.length : Int)) = false := decide_eq_false c48
             clear c48
             (first | rw [c48b0] | (simp only [i64_w, i32_w]; rw [c48b0]) | skip)
             have H' := Aside0.mk H
             clear H
             have hnb52 := NB101_102.out
             have hnc52 := NB102_101.out
             have hnb53 := NB101_103.out
             have hnc53 := NB103_101.out
             obtain ⟨hcz54_0, hcz54_1, hcz54_2, hfz54_0, hfz54_1, hfz54_2⟩ := cf3 BK101
             go_wp2
             go_meet
             case rel => exact ⟨_, (false), (by first | rfl | (simp; done) | (simp [*]; done)), H', ⟨by have := HK1.out; have := HK2.out; have := HJ15.out; have := HK4.out; first | omega | exact Nat.le_refl _⟩, ⟨pR HO_104000.out⟩, ⟨pR HO_104001.out⟩, ⟨pB BK101.out⟩, ⟨pB BK102.out⟩, ⟨pB BK103.out⟩, ⟨pE HB⟩⟩
           case rest =>
            clear HC47
            try clear c1
            try clear p1
            try clear q1
            try clear hx1
            try clear c2
            try clear p2
            try clear c3
            try clear p3
            try clear q3
            try clear hx3
            try clear hf3
            try clear c4
            try clear c5
            try clear p6
            try clear c8
            try clear c8b0
            try clear c9
            try clear c10
            try clear p10
            try clear q10
            try clear hx10
            try clear c11
            try clear c17
            try clear c17b0
            try clear c18
            try clear c19
            try clear c21
            try clear c22
            try clear c24
            try clear c25
            try clear c25b0
            try clear c25b1
            try clear c26
            try clear c26b0
            try clear c27
            try clear c27b0
            try clear c29
            try clear c29b0
            try clear c30
            try clear c30b0
            try clear c32
            try clear c32b0
            try clear c33
            try clear c33b0
            try clear p34
            try clear q34
            try clear hx34
            try clear hf34
            try clear p35
            try clear q35
            try clear hx35
            try clear hf35
            try clear c37
            try clear c38
            try clear c48
            try clear c48b0
            try clear c49
            try clear c50
            try clear c52
            try clear c53
            try clear hcz12_0
            try clear hcz12_1
            try clear hcz15_0
            try clear hcz15_1
            try clear hcz20_0
            try clear hcz20_1
            try clear hcz20_2
            try clear hcz23_0
            try clear hcz23_1
            try clear hcz23_2
            try clear hcz39_0
            try clear hcz39_1
            try clear hcz44_0
            try clear hcz44_1
            try clear hcz51_0
            try clear hcz51_1
            try clear hcz51_2
            try clear hcz54_0
            try clear hcz54_1
            try clear hcz54_2
            try clear hfz12_0
            try clear hfz12_1
            try clear hfz15_0
            try clear hfz15_1
            try clear hfz20_0
            try clear hfz20_1
            try clear hfz20_2
            try clear hfz23_0
            try clear hfz23_1
            try clear hfz23_2
            try clear hfz39_0
            try clear hfz39_1
            try clear hfz44_0
            try clear hfz44_1
            try clear hfz51_0
            try clear hfz51_1
            try clear hfz51_2
            try clear hfz54_0
            try clear hfz54_1
            try clear hfz54_2
            try clear hx107_0
            try clear hx108_0
            try clear hx109_0
            try clear hx34_0
            try clear hx35_0
            try clear p1
            try clear p10
            try clear p107
            try clear p108
            try clear p109
            try clear p2
            try clear p3
            try clear p34
            try clear p35
            try clear p6
            try clear q1
            try clear q10
            try clear q107
            try clear q108
            try clear q109
            try clear q3
            try clear q34
            try clear q35
            obtain ⟨kq, x80_46, rfl, HA, HJ46, HO_104000, HO_104001, BK101, BK102, BK103, HB⟩ := hcut
            cases kq with
            | zero => exact absurd HA.out (by simp [walkmilllaw04_Morning_day.j4])
            | succ kj46 =>
             have H := HA.out
             clear HA
             simp only [walkmilllaw04_Morning_day.j4] at H
             by_cases c55 : x80_46 = true
             ·subst c55
              rw [if_pos rfl] at H
              by_cases c56 : 0 ≤ x11_4
              ·rw [if_pos c56] at H
               have c56b0 : decide (0 ≤ x11_4) = true := decide_eq_true c56
               clear c56
               by_cases c57 : x11_4 < (l0_0.length : Int)
               ·rw [if_pos c57] at H
                have c57b0 : decide (x11_4 < (l0_0.length : Int)) = true := decide_eq_true c57
                clear c57
                by_cases c58 : (Int.tmod ((rd_T126 l0_0 x11_4).f1) 3) = 0
                ·rw [if_pos c58] at H
                 have c58b0 : ((Int.tmod ((rd_T126 l0_0 x11_4).f1) 3) == 0) = true := beq_iff_eq.mpr c58
                 have c58b1 : ((Int.tmod ((rd_T126 l0_0 x11_4).f1) 3) != 0) = false := bne_eq_false_iff_eq.mpr c58
                 clear c58
                 by_cases c59 : (wrap64 (1 + (Int.tmod (wrap64 (a0_1)) 4))) = 0
                 ·rw [if_pos c59] at H
                  exact absurd H (by simp)
                 ·rw [if_neg c59] at H
                  have c59b0 : ((wrap64 (1 + (Int.tmod (wrap64 (a0_1)) 4))) == 0) = false := beq_eq_false_iff_ne.mpr c59
                  have c59b1 : ((wrap64 (1 + (Int.tmod (wrap64 (a0_1)) 4))) != 0) = true := bne_iff_ne.mpr c59
                  obtain ⟨ji60, hji60⟩ : ∃ j_ : Int, (mn 20 (wrap64 ((wrap64 (1 + (Int.tmod (wrap64 ((rd_T126 l0_0 x11_4).f2)) 15))) + (Int.tmod (wrap64 ((rd_T126 l0_0 x11_4).f3)) 5)))) = j_ := ⟨_, rfl⟩
                  replace H : ((walkmilllaw04_span.f (wrap64 (1 + (Int.tmod (wrap64 ((rd_T126 l0_0 x11_4).f2)) 15))) (ji60)).bind fun bt114 => (if x104000_4.length < 4398046511104 then (walkmilllaw04_Morning_day.l2 kj46 (wrap64 (1 + (Int.tmod (wrap64 (a0_1)) 4))) (wrap64 (x5_4 + (Int.tmod (wrap64 ((rd_T126 l0_0 x11_4).f1)) 20))) (wrap64 (x11_4 + 1)) l0_0 a0_1 l0_2 (x104000_4 ++ [(⟨Int.tmod (wrap64 ((rd_T126 l0_0 x11_4).f0)) (wrap64 (1 + (Int.tmod (wrap64 (a0_1)) 4))), wrap64 (x5_4 + (Int.tmod (wrap64 ((rd_T126 l0_0 x11_4).f1)) 20)), (⟨bt114.1, bt114.2⟩ : S42)⟩ : S67)]) x104001_2) else (none))) = some (r1, r2) := by first | (rw [hji60] at H; exact H) | (simp only [hji60] at H ⊢; exact H)
                  have hji60_ : (if (wrap64 ((wrap64 (1 + (Int.tmod (wrap64 ((rd_T126 l0_0 x11_4).f2)) 15))) + (Int.tmod (wrap64 ((rd_T126 l0_0 x11_4).f3)) 5))) < 20 then (wrap64 ((wrap64 (1 + (Int.tmod (wrap64 ((rd_T126 l0_0 x11_4).f2)) 15))) + (Int.tmod (wrap64 ((rd_T126 l0_0 x11_4).f3)) 5))) else 20) = ji60 := hji60
                  obtain ⟨⟨t114, t115⟩, A61, H⟩ := bi H
                  by_cases c62 : x104000_4.length < 4398046511104
                  ·rw [if_pos c62] at H
                   have LMc62 := Aside0.mk c62
                   clear c62
                   obtain ⟨y116, hy116⟩ : ∃ y_ : List (S67), y_ = (x104000_4 ++ [(⟨Int.tmod (wrap64 ((rd_T126 l0_0 x11_4).f0)) (wrap64 (1 + (Int.tmod (wrap64 (a0_1)) 4))), wrap64 (x5_4 + (Int.tmod (wrap64 ((rd_T126 l0_0 x11_4).f1)) 20)), (⟨t114, t115⟩ : S42)⟩ : S67)]) := ⟨_, rfl⟩
                   replace H : (walkmilllaw04_Morning_day.l2 kj46 (wrap64 (1 + (Int.tmod (wrap64 (a0_1)) 4))) (wrap64 (x5_4 + (Int.tmod (wrap64 ((rd_T126 l0_0 x11_4).f1)) 20))) (wrap64 (x11_4 + 1)) l0_0 a0_1 l0_2 y116 x104001_2) = some (r1, r2) := yy hy116 H
                   have Ny116 := Aside0.mk hy116
                   clear hy116
                   have H' := Aside0.mk H
                   clear H
                   have hnb63 := NB101_102.out
                   have hnc63 := NB102_101.out
                   have hnb64 := NB101_103.out
                   have hnc64 := NB103_101.out
                   obtain ⟨_, _, _, _, _, _⟩ := cf3 BK101
                   have p112 : 0 ≤ (x11_4 : Int) := dT
                   have q112 : x11_4 < (l0_0.length : Int) := dT
                   obtain ⟨ad112, e112, hx112_0, hx112_1, hx112_2, hx112_3⟩ := at_T126 HR0_0.out x11_4 p112 q112
                   cases e112
                   replace hx112_0 := cut_ HB hx112_0
                   replace hx112_1 := cut_ HB hx112_1
                   replace hx112_2 := cut_ HB hx112_2
                   replace hx112_3 := cut_ HB hx112_3
                   replace p112 := eq_true p112
                   replace q112 := eq_true q112
                   try go_wp2_with (first | ((with_reducible refine gate_dst (N := 12) rfl ?_); refine bx 12 #[.int .u8 0, .int .u8 0, .int .u8 0, .int .u8 0] 126 ?_; intro gb113 hg w66 hbox hb; replace HO_104000 := rb HO_104000 hb; replace HO_104001 := rb HO_104001 hb; have BK113 := hbox; have GW113 := gs HB hg; have GE113 := gs HB hg; replace HB := bs HB hb; have NB101_113 := nl BK101 hg; have NB113_101 := nr BK101 hg; replace BK101 := bb BK101 hb; have NB102_113 := nl BK102 hg; have NB113_102 := nr BK102 hg; replace BK102 := bb BK102 hb; have NB103_113 := nl BK103 hg; have NB113_103 := nr BK103 hg; replace BK103 := bb BK103 hb; clear hb hbox hg; have hnb67 := NB113_101.out; have hnc67 := NB101_113.out; have hnb68 := NB113_102.out; have hnc68 := NB102_113.out; have hnb69 := NB113_103.out; have hnc69 := NB103_113.out; obtain ⟨_, _, _, _, _, _, _, _⟩ := cf4 BK113))
                   have n0_ : Aside0 (Kd.R k67 67 ((((w66.setCell ⟨gb113, 0, none⟩ (.int .u8 ((rd_T126 l0_0 x11_4).f0))).setCell ⟨gb113, 1, none⟩ (.int .u8 ((rd_T126 l0_0 x11_4).f1))).setCell ⟨gb113, 2, none⟩ (.int .u8 ((rd_T126 l0_0 x11_4).f2))).setCell ⟨gb113, 3, none⟩ (.int .u8 ((rd_T126 l0_0 x11_4).f3))) w.heap.size (fun _ => True) u104000 x104000_4) := ⟨by (with_reducible repeat (first | apply Kd.R_alloc | apply Kd.R_drewN | apply Kd.R_drew)); exact Kd.R_mono (Kd.R_far (p := ⟨gb113, 3, none⟩) (Kd.R_far (p := ⟨gb113, 2, none⟩) (Kd.R_far (p := ⟨gb113, 1, none⟩) (Kd.R_far (p := ⟨gb113, 0, none⟩) (Kd.R_types HO_104000.out BK113.out (by decide)) (fun _ hk => hk.2) (.int .u8 ((rd_T126 l0_0 x11_4).f0))) (fun _ hk => hk.2) (.int .u8 ((rd_T126 l0_0 x11_4).f1))) (fun _ hk => hk.2) (.int .u8 ((rd_T126 l0_0 x11_4).f2))) (fun _ hk => hk.2) (.int .u8 ((rd_T126 l0_0 x11_4).f3))) (fun _ hk => trivial)⟩
                   have n1_ : Aside0 (Kd.R (Kd.int .i64) 3 ((((w66.setCell ⟨gb113, 0, none⟩ (.int .u8 ((rd_T126 l0_0 x11_4).f0))).setCell ⟨gb113, 1, none⟩ (.int .u8 ((rd_T126 l0_0 x11_4).f1))).setCell ⟨gb113, 2, none⟩ (.int .u8 ((rd_T126 l0_0 x11_4).f2))).setCell ⟨gb113, 3, none⟩ (.int .u8 ((rd_T126 l0_0 x11_4).f3))) w.heap.size (fun _ => True) u104001 x104001_2) := ⟨by (with_reducible repeat (first | apply Kd.R_alloc | apply Kd.R_drewN | apply Kd.R_drew)); exact Kd.R_mono (Kd.R_far (p := ⟨gb113, 3, none⟩) (Kd.R_far (p := ⟨gb113, 2, none⟩) (Kd.R_far (p := ⟨gb113, 1, none⟩) (Kd.R_far (p := ⟨gb113, 0, none⟩) (Kd.R_types HO_104001.out BK113.out (by decide)) (fun _ hk => hk.2) (.int .u8 ((rd_T126 l0_0 x11_4).f0))) (fun _ hk => hk.2) (.int .u8 ((rd_T126 l0_0 x11_4).f1))) (fun _ hk => hk.2) (.int .u8 ((rd_T126 l0_0 x11_4).f2))) (fun _ hk => hk.2) (.int .u8 ((rd_T126 l0_0 x11_4).f3))) (fun _ hk => trivial)⟩
                   have n2_ : Aside0 (((((w66.setCell ⟨gb113, 0, none⟩ (.int .u8 ((rd_T126 l0_0 x11_4).f0))).setCell ⟨gb113, 1, none⟩ (.int .u8 ((rd_T126 l0_0 x11_4).f1))).setCell ⟨gb113, 2, none⟩ (.int .u8 ((rd_T126 l0_0 x11_4).f2))).setCell ⟨gb113, 3, none⟩ (.int .u8 ((rd_T126 l0_0 x11_4).f3))).heap[gb101]? = some (.cells #[.slice (some ad112) l0_0.length c0_0, .int .u8 a0_1, .slice A0_2 l0_2.length c0_2] 76 (0, 0))) := ⟨pF BK101⟩
                   have n3_ : Aside0 (((((w66.setCell ⟨gb113, 0, none⟩ (.int .u8 ((rd_T126 l0_0 x11_4).f0))).setCell ⟨gb113, 1, none⟩ (.int .u8 ((rd_T126 l0_0 x11_4).f1))).setCell ⟨gb113, 2, none⟩ (.int .u8 ((rd_T126 l0_0 x11_4).f2))).setCell ⟨gb113, 3, none⟩ (.int .u8 ((rd_T126 l0_0 x11_4).f3))).heap[gb102]? = some (.cells #[.slice none 0 0, .slice none 0 0] 25 (0, 0))) := ⟨pF BK102⟩
                   have n4_ : Aside0 (((((w66.setCell ⟨gb113, 0, none⟩ (.int .u8 ((rd_T126 l0_0 x11_4).f0))).setCell ⟨gb113, 1, none⟩ (.int .u8 ((rd_T126 l0_0 x11_4).f1))).setCell ⟨gb113, 2, none⟩ (.int .u8 ((rd_T126 l0_0 x11_4).f2))).setCell ⟨gb113, 3, none⟩ (.int .u8 ((rd_T126 l0_0 x11_4).f3))).heap[gb103]? = some (.cells #[u104000, u104001] 25 (0, 0))) := ⟨pF BK103⟩
                   have n5_ : Aside0 (((((w66.setCell ⟨gb113, 0, none⟩ (.int .u8 ((rd_T126 l0_0 x11_4).f0))).setCell ⟨gb113, 1, none⟩ (.int .u8 ((rd_T126 l0_0 x11_4).f1))).setCell ⟨gb113, 2, none⟩ (.int .u8 ((rd_T126 l0_0 x11_4).f2))).setCell ⟨gb113, 3, none⟩ (.int .u8 ((rd_T126 l0_0 x11_4).f3))).heap[gb113]? = some (.cells #[.int .u8 ((rd_T126 l0_0 x11_4).f0), .int .u8 ((rd_T126 l0_0 x11_4).f1), .int .u8 ((rd_T126 l0_0 x11_4).f2), .int .u8 ((rd_T126 l0_0 x11_4).f3)] 126 (0, 0))) := ⟨by refine pB ?_; refine blk_put (cs := #[.int .u8 ((rd_T126 l0_0 x11_4).f0), .int .u8 ((rd_T126 l0_0 x11_4).f1), .int .u8 ((rd_T126 l0_0 x11_4).f2), .int .u8 0]) ?_ 3 _ rfl; refine pB ?_; refine blk_put (cs := #[.int .u8 ((rd_T126 l0_0 x11_4).f0), .int .u8 ((rd_T126 l0_0 x11_4).f1), .int .u8 0, .int .u8 0]) ?_ 2 _ rfl; refine pB ?_; refine blk_put (cs := #[.int .u8 ((rd_T126 l0_0 x11_4).f0), .int .u8 0, .int .u8 0, .int .u8 0]) ?_ 1 _ rfl; refine pB ?_; refine blk_put (cs := #[.int .u8 0, .int .u8 0, .int .u8 0, .int .u8 0]) ?_ 0 _ rfl; exact pB BK113.out⟩
                   have n6_ : Aside0 (Below w.heap.size w ((((w66.setCell ⟨gb113, 0, none⟩ (.int .u8 ((rd_T126 l0_0 x11_4).f0))).setCell ⟨gb113, 1, none⟩ (.int .u8 ((rd_T126 l0_0 x11_4).f1))).setCell ⟨gb113, 2, none⟩ (.int .u8 ((rd_T126 l0_0 x11_4).f2))).setCell ⟨gb113, 3, none⟩ (.int .u8 ((rd_T126 l0_0 x11_4).f3)))) := ⟨pE HB⟩
                   (try clear HO_104000)
                   (try clear HO_104001)
                   (try clear BK101)
                   (try clear BK102)
                   (try clear BK103)
                   (try clear BK113)
                   (try clear HB)
                   generalize ((((w66.setCell ⟨gb113, 0, none⟩ (.int .u8 ((rd_T126 l0_0 x11_4).f0))).setCell ⟨gb113, 1, none⟩ (.int .u8 ((rd_T126 l0_0 x11_4).f1))).setCell ⟨gb113, 2, none⟩ (.int .u8 ((rd_T126 l0_0 x11_4).f2))).setCell ⟨gb113, 3, none⟩ (.int .u8 ((rd_T126 l0_0 x11_4).f3))) = w71 at n0_ n1_ n2_ n3_ n4_ n5_ n6_ ⊢
                   have HO_104000 := n0_
                   have HO_104001 := n1_
                   have BK101 := n2_
                   have BK102 := n3_
                   have BK103 := n4_
                   have BK113 := n5_
                   have HB := n6_
                   clear n0_ n1_ n2_ n3_ n4_ n5_ n6_
                   replace HO_104000 := Aside0.mk (Kd.R_drew HO_104000.out)
                   replace HO_104001 := Aside0.mk (Kd.R_drew HO_104001.out)
                   replace BK101 := Aside0.mk (blk_drew BK101.out)
                   replace BK102 := Aside0.mk (blk_drew BK102.out)
                   replace BK103 := Aside0.mk (blk_drew BK103.out)
                   replace BK113 := Aside0.mk (blk_drew BK113.out)
                   replace HB := Aside0.mk (below_drew1 HB.out)
                   refine start_ (n := 22) (S := fun w' => w'.cell? ⟨gb103, 0, none⟩ = some (u104000) ∧ w'.cell? ⟨gb103, 1, none⟩ = some (u104001) ∧ w'.cell? ⟨gb113, 0, none⟩ = some (.int .u8 ((rd_T126 l0_0 x11_4).f0)) ∧ w'.cell? ⟨gb113, 1, none⟩ = some (.int .u8 ((rd_T126 l0_0 x11_4).f1)) ∧ w'.cell? ⟨gb113, 2, none⟩ = some (.int .u8 ((rd_T126 l0_0 x11_4).f2)) ∧ w'.cell? ⟨gb113, 3, none⟩ = some (.int .u8 ((rd_T126 l0_0 x11_4).f3))) (ds := [21]) #[false, false, false, false, false, false, false, false, false, false, false, false, false, false, false, false, false, false, false, false, false, false] (by kernel_rfl) rfl rfl ⟨(blk_cell BK103.out 0).trans rfl, (blk_cell BK103.out 1).trans rfl, (blk_cell BK113.out 0).trans rfl, (blk_cell BK113.out 1).trans rfl, (blk_cell BK113.out 2).trans rfl, (blk_cell BK113.out 3).trans rfl⟩ (fun hHeld => ?_); refine with_tabW walkmilllaw04_Morning_day.tab20 walkmilllaw04_Morning_day.bits20 (fun HT_ HW_ => ?_)
                   generalize w71.drew = w72 at HO_104000 HO_104001 BK101 BK102 BK103 BK113 HB hHeld ⊢
                   refine pu 0 103 ?_
                   refine pu 2 105 ?_
                   refine pu 5 108 ?_
                   refine pu 7 110 ?_
                   refine pu 8 111 ?_
                   refine pu 9 112 ?_
                   refine pu 10 113 ?_
                   refine tk 1 104 hHeld ?_
                   refine tk 3 106 hHeld ?_
                   refine pu 4 107 ?_
                   refine pu 6 109 ?_
                   refine tk 11 114 hHeld ?_
                   refine pu 12 115 ?_
                   refine pu 13 116 ?_
                   refine pu 14 117 ?_
                   refine pu 15 118 ?_
                   refine on 16 (fun K hK => ?_)
                   refine goes_ Tryz.func55 (by kernel_rfl) rfl #[.int .i64 (wrap64 (1 + (Int.tmod (wrap64 ((rd_T126 l0_0 x11_4).f2)) 15))), .int .i64 ji60] (by rfl) rfl rfl (by (try simp only [List.map_toArray, List.map_cons, List.map_nil]); first | done | (simp only [hji60]; rfl) | rfl | (simp only [List.length_drop, List.length_take]; rfl)) ?_
                   with_reducible refine (walkmilllaw04_span.calls (wrap64 (1 + (Int.tmod (wrap64 ((rd_T126 l0_0 x11_4).f2)) 15))) ji60 t114 t115 _ A61.out).mono ?_
                   rintro e w73 ⟨rfl, hb⟩
                   refine ⟨_, rfl, ?_⟩
                   replace HO_104000 := rb HO_104000 hb
                   replace HO_104001 := rb HO_104001 hb
                   replace BK101 := bb BK101 hb
                   replace BK102 := bb BK102 hb
                   replace BK103 := bb BK103 hb
                   replace BK113 := bb BK113 hb
                   replace HB := bs HB hb
                   (try clear hb)
                   (try clear hb2)
                   (try clear hk)
                   (try clear hi)
                   refine hK.out _ _ ⟨(blk_cell BK103.out 0).trans rfl, (blk_cell BK103.out 1).trans rfl, (blk_cell BK113.out 0).trans rfl, (blk_cell BK113.out 1).trans rfl, (blk_cell BK113.out 2).trans rfl, (blk_cell BK113.out 3).trans rfl⟩ (fun hHeld => ?_)
                   clear hK K
                   refine norm_ (a' := ?_) ?_ ?_
                   rotate_left
                   ·show Act.put _ (some 119) _ = _
                    simp only [Act.put, List.setIfInBounds_toArray, List.set_cons_zero, List.set_cons_succ, i64_w, i32_w]
                    rfl
                   refine pu 17 120 ?_
                   refine on 18 (fun K hK => ?_)
                   refine value_ (w1 := ?_) (v := ?_) (by rfl) rfl ?_ ?_
                   rotate_left 2
                   ·go_simp
                    constructor
                    ·rfl
                    ·rfl
                   refine hK.out _ _ ⟨(blk_cell (blk_alloc BK103.out _) 0).trans rfl, (blk_cell (blk_alloc BK103.out _) 1).trans rfl, (blk_cell (blk_alloc BK113.out _) 0).trans rfl, (blk_cell (blk_alloc BK113.out _) 1).trans rfl, (blk_cell (blk_alloc BK113.out _) 2).trans rfl, (blk_cell (blk_alloc BK113.out _) 3).trans rfl⟩ (fun hHeld => ?_)
                   clear hK K
                   refine norm_ (a' := ?_) ?_ ?_
                   rotate_left
                   ·show Act.put _ (some 121) _ = _
                    simp only [Act.put, List.setIfInBounds_toArray, List.set_cons_zero, List.set_cons_succ, i64_w, i32_w]
                    rfl
                   refine on 19 (fun K hK => ?_)
                   refine Kd.R_append_step k67 (w0 := w) w.heap.size (by rfl) (.tmp 104) (.tmp 121) 22 67 (.agg #[(.int .i64 0), (.int .i64 0), (.int .i64 0), (.int .i64 0)]) 32 rfl Tryz.underlying22 info67 rfl (by decide) (by omega) u104000 x104000_4 (⟨Int.tmod (wrap64 ((rd_T126 l0_0 x11_4).f0)) (wrap64 (1 + (Int.tmod (wrap64 (a0_1)) 4))), wrap64 (x5_4 + (Int.tmod (wrap64 ((rd_T126 l0_0 x11_4).f1)) 20)), (⟨t114, t115⟩ : S42)⟩ : S67) [.int .i64 (Int.tmod (wrap64 ((rd_T126 l0_0 x11_4).f0)) (wrap64 (1 + (Int.tmod (wrap64 (a0_1)) 4)))), .int .i64 (wrap64 (x5_4 + (Int.tmod (wrap64 ((rd_T126 l0_0 x11_4).f1)) 20))), .int .i64 t114, .int .i64 t115] (fun _ => True) (fun _ => False) rfl rfl ?aP (fun _ hk => hk.elim) ?aF ?aO ?aB ?aS ?aL ?_
                   (case aP => exact k67_mkM _ _ _ (⟨Int.tmod (wrap64 ((rd_T126 l0_0 x11_4).f0)) (wrap64 (1 + (Int.tmod (wrap64 (a0_1)) 4))), wrap64 (x5_4 + (Int.tmod (wrap64 ((rd_T126 l0_0 x11_4).f1)) 20)), (⟨t114, t115⟩ : S42)⟩ : S67))
                   (case aB => exact (pE HB))
                   (case aF => exact (fun _ _ => trivial))
                   (case aO => exact (pR HO_104000.out))
                   (case aS => exact (below_size (pE HB)))
                   (case aL => have := LMc62.out; omega)
                   intro v117 w74 ho hb hg hat
                   rw [← Ny116.out] at ho
                   replace HO_104001 := Aside0.mk (Kd.R_over' (pR HO_104001.out) (Kd.R_typed (pR HO_104000.out)) (by decide) hg)
                   replace BK101 := Aside0.mk (blk_grown (g := gb101) (o := .cells #[.slice (some ad112) l0_0.length c0_0, .int .u8 a0_1, .slice A0_2 l0_2.length c0_2] 76 (0, 0)) (pB BK101.out) hg (Kd.R_ne HO_104000.out BK101.out (by decide)))
                   replace BK102 := Aside0.mk (blk_grown (g := gb102) (o := .cells #[.slice none 0 0, .slice none 0 0] 25 (0, 0)) (pB BK102.out) hg (Kd.R_ne HO_104000.out BK102.out (by decide)))
                   replace BK103 := Aside0.mk (blk_grown (g := gb103) (o := .cells #[u104000, u104001] 25 (0, 0)) (pB BK103.out) hg (Kd.R_ne HO_104000.out BK103.out (by decide)))
                   replace BK113 := Aside0.mk (blk_grown (g := gb113) (o := .cells #[.int .u8 ((rd_T126 l0_0 x11_4).f0), .int .u8 ((rd_T126 l0_0 x11_4).f1), .int .u8 ((rd_T126 l0_0 x11_4).f2), .int .u8 ((rd_T126 l0_0 x11_4).f3)] 126 (0, 0)) (pB BK113.out) hg (Kd.R_ne HO_104000.out BK113.out (by decide)))
                   replace HB := Aside0.mk (hb)
                   have HO118 := Aside0.mk (ho)
                   clear HO_104000 ho hb hg hat
                   obtain ⟨Ao75, co75, eo75⟩ := Kd.R_slice HO118.out
                   (first | subst eo75 | (injection eo75 with f1_ f2_ f3_; have f4_ := f1_.symm; have f5_ := f3_.symm; clear f1_ f2_ f3_; subst f4_; subst f5_))
                   refine hK.out _ _ ⟨(blk_cell BK103.out 0).trans rfl, (blk_cell BK103.out 1).trans rfl, (blk_cell BK113.out 0).trans rfl, (blk_cell BK113.out 1).trans rfl, (blk_cell BK113.out 2).trans rfl, (blk_cell BK113.out 3).trans rfl⟩ (fun hHeld => ?_)
                   clear hK K
                   refine norm_ (a' := ?_) ?_ ?_
                   rotate_left
                   ·show Act.put _ (some 122) _ = _
                    simp only [Act.put, List.setIfInBounds_toArray, List.set_cons_zero, List.set_cons_succ, i64_w, i32_w]
                    rfl
                   refine pu 20 123 ?_
                   refine last_ (i := 21) (N := none) #[true, true, true, true, true, true, true, true, true, true, true, true, true, true, true, true, true, true, true, true, true, true] rfl rfl (one_of HT_.out (by kernel_rfl)) (by decide) (fun K hK => ?_)
                   have hs76 : w74.cell? ⟨gb103, 0, none⟩ = some (u104000) := (blk_cell BK103.out 0).trans rfl
                   have hfs76 := blk_frozen BK103.out 0
                   have hns76_0 := NB101_103.out
                   have hns76_1 := NB102_103.out
                   have hns76_3 := NB113_103.out
                   have hms76_0 := NB103_101.out
                   have hms76_1 := NB103_102.out
                   have hms76_3 := NB103_113.out
                   refine skip_ (w1 := ?_) (by rfl) rfl ?_ ?_
                   rotate_left
                   ·go_simp
                    rfl
                   refine hK.out _ _ ?_
                   clear hK K
                   refine done_ (done_of HT_.out (by kernel_rfl)) ?_
                   try go_wp2
                   go_roundg kj46
                   case measure => have := HK1.out; have := HK2.out; have := HJ15.out; have := HK4.out; have := HJ46.out; omega
                   case rel => exact ⟨(wrap64 (x5_4 + (Int.tmod (wrap64 ((rd_T126 l0_0 x11_4).f1)) 20))), (wrap64 (x11_4 + 1)), (y116), (.slice Ao75 y116.length co75), (by first | rfl | (simp; done) | (simp [*]; done)), (by first | rfl | (simp; done) | (simp [*]; done)), H', ⟨by have := HK1.out; have := HK2.out; have := HJ15.out; have := HK4.out; have := HJ46.out; omega⟩, ⟨by (with_reducible repeat (first | apply Kd.R_alloc | apply Kd.R_drewN | apply Kd.R_drew)); exact Kd.R_mono (Kd.R_far (p := ⟨gb103, 0, none⟩) (Kd.R_types HO118.out BK103.out (by decide)) (fun _ hk => hk.2) (.slice Ao75 y116.length co75)) (fun _ hk => trivial)⟩, ⟨by (with_reducible repeat (first | apply Kd.R_alloc | apply Kd.R_drewN | apply Kd.R_drew)); exact Kd.R_mono (Kd.R_far (p := ⟨gb103, 0, none⟩) (Kd.R_types HO_104001.out BK103.out (by decide)) (fun _ hk => hk.2) (.slice Ao75 y116.length co75)) (fun _ hk => trivial)⟩, ⟨pF BK101⟩, ⟨pF BK102⟩, ⟨by refine pB ?_; refine blk_put (cs := #[u104000, u104001]) ?_ 0 _ rfl; exact pB BK103.out⟩, ⟨pE HB⟩⟩
                  ·rw [if_neg c62] at H
                   exact absurd H (by simp)
                ·rw [if_neg c58] at H
                 have c58b0 : ((Int.tmod ((rd_T126 l0_0 x11_4).f1) 3) == 0) = false := beq_eq_false_iff_ne.mpr c58
                 have c58b1 : ((Int.tmod ((rd_T126 l0_0 x11_4).f1) 3) != 0) = true := bne_iff_ne.mpr c58
                 by_cases c77 : (wrap64 (1 + (Int.tmod (wrap64 (a0_1)) 4))) = 0
                 ·rw [if_pos c77] at H
                  exact absurd H (by simp)
                 ·rw [if_neg c77] at H
                  have c77b0 : ((wrap64 (1 + (Int.tmod (wrap64 (a0_1)) 4))) == 0) = false := beq_eq_false_iff_ne.mpr c77
                  have c77b1 : ((wrap64 (1 + (Int.tmod (wrap64 (a0_1)) 4))) != 0) = true := bne_iff_ne.mpr c77
                  obtain ⟨ji78, hji78⟩ : ∃ j_ : Int, (mn 20 (wrap64 ((wrap64 (1 + (Int.tmod (wrap64 ((rd_T126 l0_0 x11_4).f2)) 15))) + (Int.tmod (wrap64 ((rd_T126 l0_0 x11_4).f3)) 5)))) = j_ := ⟨_, rfl⟩
                  replace H : ((walkmilllaw04_span.f (wrap64 (1 + (Int.tmod (wrap64 ((rd_T126 l0_0 x11_4).f2)) 15))) (ji78)).bind fun bt119 => (if x104000_4.length < 4398046511104 then (walkmilllaw04_Morning_day.l2 kj46 (wrap64 (1 + (Int.tmod (wrap64 (a0_1)) 4))) x5_4 (wrap64 (x11_4 + 1)) l0_0 a0_1 l0_2 (x104000_4 ++ [(⟨Int.tmod (wrap64 ((rd_T126 l0_0 x11_4).f0)) (wrap64 (1 + (Int.tmod (wrap64 (a0_1)) 4))), x5_4, (⟨bt119.1, bt119.2⟩ : S42)⟩ : S67)]) x104001_2) else (none))) = some (r1, r2) := by first | (rw [hji78] at H; exact H) | (simp only [hji78] at H ⊢; exact H)
                  have hji78_ : (if (wrap64 ((wrap64 (1 + (Int.tmod (wrap64 ((rd_T126 l0_0 x11_4).f2)) 15))) + (Int.tmod (wrap64 ((rd_T126 l0_0 x11_4).f3)) 5))) < 20 then (wrap64 ((wrap64 (1 + (Int.tmod (wrap64 ((rd_T126 l0_0 x11_4).f2)) 15))) + (Int.tmod (wrap64 ((rd_T126 l0_0 x11_4).f3)) 5))) else 20) = ji78 := hji78
                  obtain ⟨⟨t119, t120⟩, A79, H⟩ := bi H
                  by_cases c80 : x104000_4.length < 4398046511104
                  ·rw [if_pos c80] at H
                   have LMc80 := Aside0.mk c80
                   clear c80
                   obtain ⟨y121, hy121⟩ : ∃ y_ : List (S67), y_ = (x104000_4 ++ [(⟨Int.tmod (wrap64 ((rd_T126 l0_0 x11_4).f0)) (wrap64 (1 + (Int.tmod (wrap64 (a0_1)) 4))), x5_4, (⟨t119, t120⟩ : S42)⟩ : S67)]) := ⟨_, rfl⟩
                   replace H : (walkmilllaw04_Morning_day.l2 kj46 (wrap64 (1 + (Int.tmod (wrap64 (a0_1)) 4))) x5_4 (wrap64 (x11_4 + 1)) l0_0 a0_1 l0_2 y121 x104001_2) = some (r1, r2) := yy hy121 H
                   have Ny121 := Aside0.mk hy121
                   clear hy121
                   have H' := Aside0.mk H
                   clear H
                   have hnb81 := NB101_102.out
                   have hnc81 := NB102_101.out
                   have hnb82 := NB101_103.out
                   have hnc82 := NB103_101.out
                   obtain ⟨_, _, _, _, _, _⟩ := cf3 BK101
                   have p112 : 0 ≤ (x11_4 : Int) := dT
                   have q112 : x11_4 < (l0_0.length : Int) := dT
                   obtain ⟨ad112, e112, hx112_0, hx112_1, hx112_2, hx112_3⟩ := at_T126 HR0_0.out x11_4 p112 q112
                   cases e112
                   replace hx112_0 := cut_ HB hx112_0
                   replace hx112_1 := cut_ HB hx112_1
                   replace hx112_2 := cut_ HB hx112_2
                   replace hx112_3 := cut_ HB hx112_3
                   replace p112 := eq_true p112
                   replace q112 := eq_true q112
                   try go_wp2_with (first | ((with_reducible refine gate_dst (N := 12) rfl ?_); refine bx 12 #[.int .u8 0, .int .u8 0, .int .u8 0, .int .u8 0] 126 ?_; intro gb113 hg w84 hbox hb; replace HO_104000 := rb HO_104000 hb; replace HO_104001 := rb HO_104001 hb; have BK113 := hbox; have GW113 := gs HB hg; have GE113 := gs HB hg; replace HB := bs HB hb; have NB101_113 := nl BK101 hg; have NB113_101 := nr BK101 hg; replace BK101 := bb BK101 hb; have NB102_113 := nl BK102 hg; have NB113_102 := nr BK102 hg; replace BK102 := bb BK102 hb; have NB103_113 := nl BK103 hg; have NB113_103 := nr BK103 hg; replace BK103 := bb BK103 hb; clear hb hbox hg; have hnb85 := NB113_101.out; have hnc85 := NB101_113.out; have hnb86 := NB113_102.out; have hnc86 := NB102_113.out; have hnb87 := NB113_103.out; have hnc87 := NB103_113.out; obtain ⟨_, _, _, _, _, _, _, _⟩ := cf4 BK113))
                   have n0_ : Aside0 (Kd.R k67 67 ((((w84.setCell ⟨gb113, 0, none⟩ (.int .u8 ((rd_T126 l0_0 x11_4).f0))).setCell ⟨gb113, 1, none⟩ (.int .u8 ((rd_T126 l0_0 x11_4).f1))).setCell ⟨gb113, 2, none⟩ (.int .u8 ((rd_T126 l0_0 x11_4).f2))).setCell ⟨gb113, 3, none⟩ (.int .u8 ((rd_T126 l0_0 x11_4).f3))) w.heap.size (fun _ => True) u104000 x104000_4) := ⟨by (with_reducible repeat (first | apply Kd.R_alloc | apply Kd.R_drewN | apply Kd.R_drew)); exact Kd.R_mono (Kd.R_far (p := ⟨gb113, 3, none⟩) (Kd.R_far (p := ⟨gb113, 2, none⟩) (Kd.R_far (p := ⟨gb113, 1, none⟩) (Kd.R_far (p := ⟨gb113, 0, none⟩) (Kd.R_types HO_104000.out BK113.out (by decide)) (fun _ hk => hk.2) (.int .u8 ((rd_T126 l0_0 x11_4).f0))) (fun _ hk => hk.2) (.int .u8 ((rd_T126 l0_0 x11_4).f1))) (fun _ hk => hk.2) (.int .u8 ((rd_T126 l0_0 x11_4).f2))) (fun _ hk => hk.2) (.int .u8 ((rd_T126 l0_0 x11_4).f3))) (fun _ hk => trivial)⟩
                   have n1_ : Aside0 (Kd.R (Kd.int .i64) 3 ((((w84.setCell ⟨gb113, 0, none⟩ (.int .u8 ((rd_T126 l0_0 x11_4).f0))).setCell ⟨gb113, 1, none⟩ (.int .u8 ((rd_T126 l0_0 x11_4).f1))).setCell ⟨gb113, 2, none⟩ (.int .u8 ((rd_T126 l0_0 x11_4).f2))).setCell ⟨gb113, 3, none⟩ (.int .u8 ((rd_T126 l0_0 x11_4).f3))) w.heap.size (fun _ => True) u104001 x104001_2) := ⟨by (with_reducible repeat (first | apply Kd.R_alloc | apply Kd.R_drewN | apply Kd.R_drew)); exact Kd.R_mono (Kd.R_far (p := ⟨gb113, 3, none⟩) (Kd.R_far (p := ⟨gb113, 2, none⟩) (Kd.R_far (p := ⟨gb113, 1, none⟩) (Kd.R_far (p := ⟨gb113, 0, none⟩) (Kd.R_types HO_104001.out BK113.out (by decide)) (fun _ hk => hk.2) (.int .u8 ((rd_T126 l0_0 x11_4).f0))) (fun _ hk => hk.2) (.int .u8 ((rd_T126 l0_0 x11_4).f1))) (fun _ hk => hk.2) (.int .u8 ((rd_T126 l0_0 x11_4).f2))) (fun _ hk => hk.2) (.int .u8 ((rd_T126 l0_0 x11_4).f3))) (fun _ hk => trivial)⟩
                   have n2_ : Aside0 (((((w84.setCell ⟨gb113, 0, none⟩ (.int .u8 ((rd_T126 l0_0 x11_4).f0))).setCell ⟨gb113, 1, none⟩ (.int .u8 ((rd_T126 l0_0 x11_4).f1))).setCell ⟨gb113, 2, none⟩ (.int .u8 ((rd_T126 l0_0 x11_4).f2))).setCell ⟨gb113, 3, none⟩ (.int .u8 ((rd_T126 l0_0 x11_4).f3))).heap[gb101]? = some (.cells #[.slice (some ad112) l0_0.length c0_0, .int .u8 a0_1, .slice A0_2 l0_2.length c0_2] 76 (0, 0))) := ⟨pF BK101⟩
                   have n3_ : Aside0 (((((w84.setCell ⟨gb113, 0, none⟩ (.int .u8 ((rd_T126 l0_0 x11_4).f0))).setCell ⟨gb113, 1, none⟩ (.int .u8 ((rd_T126 l0_0 x11_4).f1))).setCell ⟨gb113, 2, none⟩ (.int .u8 ((rd_T126 l0_0 x11_4).f2))).setCell ⟨gb113, 3, none⟩ (.int .u8 ((rd_T126 l0_0 x11_4).f3))).heap[gb102]? = some (.cells #[.slice none 0 0, .slice none 0 0] 25 (0, 0))) := ⟨pF BK102⟩
                   have n4_ : Aside0 (((((w84.setCell ⟨gb113, 0, none⟩ (.int .u8 ((rd_T126 l0_0 x11_4).f0))).setCell ⟨gb113, 1, none⟩ (.int .u8 ((rd_T126 l0_0 x11_4).f1))).setCell ⟨gb113, 2, none⟩ (.int .u8 ((rd_T126 l0_0 x11_4).f2))).setCell ⟨gb113, 3, none⟩ (.int .u8 ((rd_T126 l0_0 x11_4).f3))).heap[gb103]? = some (.cells #[u104000, u104001] 25 (0, 0))) := ⟨pF BK103⟩
                   have n5_ : Aside0 (((((w84.setCell ⟨gb113, 0, none⟩ (.int .u8 ((rd_T126 l0_0 x11_4).f0))).setCell ⟨gb113, 1, none⟩ (.int .u8 ((rd_T126 l0_0 x11_4).f1))).setCell ⟨gb113, 2, none⟩ (.int .u8 ((rd_T126 l0_0 x11_4).f2))).setCell ⟨gb113, 3, none⟩ (.int .u8 ((rd_T126 l0_0 x11_4).f3))).heap[gb113]? = some (.cells #[.int .u8 ((rd_T126 l0_0 x11_4).f0), .int .u8 ((rd_T126 l0_0 x11_4).f1), .int .u8 ((rd_T126 l0_0 x11_4).f2), .int .u8 ((rd_T126 l0_0 x11_4).f3)] 126 (0, 0))) := ⟨by refine pB ?_; refine blk_put (cs := #[.int .u8 ((rd_T126 l0_0 x11_4).f0), .int .u8 ((rd_T126 l0_0 x11_4).f1), .int .u8 ((rd_T126 l0_0 x11_4).f2), .int .u8 0]) ?_ 3 _ rfl; refine pB ?_; refine blk_put (cs := #[.int .u8 ((rd_T126 l0_0 x11_4).f0), .int .u8 ((rd_T126 l0_0 x11_4).f1), .int .u8 0, .int .u8 0]) ?_ 2 _ rfl; refine pB ?_; refine blk_put (cs := #[.int .u8 ((rd_T126 l0_0 x11_4).f0), .int .u8 0, .int .u8 0, .int .u8 0]) ?_ 1 _ rfl; refine pB ?_; refine blk_put (cs := #[.int .u8 0, .int .u8 0, .int .u8 0, .int .u8 0]) ?_ 0 _ rfl; exact pB BK113.out⟩
                   have n6_ : Aside0 (Below w.heap.size w ((((w84.setCell ⟨gb113, 0, none⟩ (.int .u8 ((rd_T126 l0_0 x11_4).f0))).setCell ⟨gb113, 1, none⟩ (.int .u8 ((rd_T126 l0_0 x11_4).f1))).setCell ⟨gb113, 2, none⟩ (.int .u8 ((rd_T126 l0_0 x11_4).f2))).setCell ⟨gb113, 3, none⟩ (.int .u8 ((rd_T126 l0_0 x11_4).f3)))) := ⟨pE HB⟩
                   (try clear HO_104000)
                   (try clear HO_104001)
                   (try clear BK101)
                   (try clear BK102)
                   (try clear BK103)
                   (try clear BK113)
                   (try clear HB)
                   generalize ((((w84.setCell ⟨gb113, 0, none⟩ (.int .u8 ((rd_T126 l0_0 x11_4).f0))).setCell ⟨gb113, 1, none⟩ (.int .u8 ((rd_T126 l0_0 x11_4).f1))).setCell ⟨gb113, 2, none⟩ (.int .u8 ((rd_T126 l0_0 x11_4).f2))).setCell ⟨gb113, 3, none⟩ (.int .u8 ((rd_T126 l0_0 x11_4).f3))) = w89 at n0_ n1_ n2_ n3_ n4_ n5_ n6_ ⊢
                   have HO_104000 := n0_
                   have HO_104001 := n1_
                   have BK101 := n2_
                   have BK102 := n3_
                   have BK103 := n4_
                   have BK113 := n5_
                   have HB := n6_
                   clear n0_ n1_ n2_ n3_ n4_ n5_ n6_
                   replace HO_104000 := Aside0.mk (Kd.R_drew HO_104000.out)
                   replace HO_104001 := Aside0.mk (Kd.R_drew HO_104001.out)
                   replace BK101 := Aside0.mk (blk_drew BK101.out)
                   replace BK102 := Aside0.mk (blk_drew BK102.out)
                   replace BK103 := Aside0.mk (blk_drew BK103.out)
                   replace BK113 := Aside0.mk (blk_drew BK113.out)
                   replace HB := Aside0.mk (below_drew1 HB.out)
                   refine start_ (n := 22) (S := fun w' => w'.cell? ⟨gb103, 0, none⟩ = some (u104000) ∧ w'.cell? ⟨gb103, 1, none⟩ = some (u104001) ∧ w'.cell? ⟨gb113, 0, none⟩ = some (.int .u8 ((rd_T126 l0_0 x11_4).f0)) ∧ w'.cell? ⟨gb113, 1, none⟩ = some (.int .u8 ((rd_T126 l0_0 x11_4).f1)) ∧ w'.cell? ⟨gb113, 2, none⟩ = some (.int .u8 ((rd_T126 l0_0 x11_4).f2)) ∧ w'.cell? ⟨gb113, 3, none⟩ = some (.int .u8 ((rd_T126 l0_0 x11_4).f3))) (ds := [21]) #[false, false, false, false, false, false, false, false, false, false, false, false, false, false, false, false, false, false, false, false, false, false] (by kernel_rfl) rfl rfl ⟨(blk_cell BK103.out 0).trans rfl, (blk_cell BK103.out 1).trans rfl, (blk_cell BK113.out 0).trans rfl, (blk_cell BK113.out 1).trans rfl, (blk_cell BK113.out 2).trans rfl, (blk_cell BK113.out 3).trans rfl⟩ (fun hHeld => ?_); refine with_tabW walkmilllaw04_Morning_day.tab20 walkmilllaw04_Morning_day.bits20 (fun HT_ HW_ => ?_)
                   generalize w89.drew = w90 at HO_104000 HO_104001 BK101 BK102 BK103 BK113 HB hHeld ⊢
                   refine pu 0 103 ?_
                   refine pu 2 105 ?_
                   refine pu 5 108 ?_
                   refine pu 7 110 ?_
                   refine pu 8 111 ?_
                   refine pu 9 112 ?_
                   refine pu 10 113 ?_
                   refine tk 1 104 hHeld ?_
                   refine tk 3 106 hHeld ?_
                   refine pu 4 107 ?_
                   refine pu 6 109 ?_
                   refine tk 11 114 hHeld ?_
                   refine pu 12 115 ?_
                   refine pu 13 116 ?_
                   refine pu 14 117 ?_
                   refine pu 15 118 ?_
                   refine on 16 (fun K hK => ?_)
                   refine goes_ Tryz.func55 (by kernel_rfl) rfl #[.int .i64 (wrap64 (1 + (Int.tmod (wrap64 ((rd_T126 l0_0 x11_4).f2)) 15))), .int .i64 ji78] (by rfl) rfl rfl (by (try simp only [List.map_toArray, List.map_cons, List.map_nil]); first | done | (simp only [hji78]; rfl) | rfl | (simp only [List.length_drop, List.length_take]; rfl)) ?_
                   with_reducible refine (walkmilllaw04_span.calls (wrap64 (1 + (Int.tmod (wrap64 ((rd_T126 l0_0 x11_4).f2)) 15))) ji78 t119 t120 _ A79.out).mono ?_
                   rintro e w91 ⟨rfl, hb⟩
                   refine ⟨_, rfl, ?_⟩
                   replace HO_104000 := rb HO_104000 hb
                   replace HO_104001 := rb HO_104001 hb
                   replace BK101 := bb BK101 hb
                   replace BK102 := bb BK102 hb
                   replace BK103 := bb BK103 hb
                   replace BK113 := bb BK113 hb
                   replace HB := bs HB hb
                   (try clear hb)
                   (try clear hb2)
                   (try clear hk)
                   (try clear hi)
                   refine hK.out _ _ ⟨(blk_cell BK103.out 0).trans rfl, (blk_cell BK103.out 1).trans rfl, (blk_cell BK113.out 0).trans rfl, (blk_cell BK113.out 1).trans rfl, (blk_cell BK113.out 2).trans rfl, (blk_cell BK113.out 3).trans rfl⟩ (fun hHeld => ?_)
                   clear hK K
                   refine norm_ (a' := ?_) ?_ ?_
                   rotate_left
                   ·show Act.put _ (some 119) _ = _
                    simp only [Act.put, List.setIfInBounds_toArray, List.set_cons_zero, List.set_cons_succ, i64_w, i32_w]
                    rfl
                   refine pu 17 120 ?_
                   refine on 18 (fun K hK => ?_)
                   refine value_ (w1 := ?_) (v := ?_) (by rfl) rfl ?_ ?_
                   rotate_left 2
                   ·go_simp
                    constructor
                    ·rfl
                    ·rfl
                   refine hK.out _ _ ⟨(blk_cell (blk_alloc BK103.out _) 0).trans rfl, (blk_cell (blk_alloc BK103.out _) 1).trans rfl, (blk_cell (blk_alloc BK113.out _) 0).trans rfl, (blk_cell (blk_alloc BK113.out _) 1).trans rfl, (blk_cell (blk_alloc BK113.out _) 2).trans rfl, (blk_cell (blk_alloc BK113.out _) 3).trans rfl⟩ (fun hHeld => ?_)
                   clear hK K
                   refine norm_ (a' := ?_) ?_ ?_
                   rotate_left
                   ·show Act.put _ (some 121) _ = _
                    simp only [Act.put, List.setIfInBounds_toArray, List.set_cons_zero, List.set_cons_succ, i64_w, i32_w]
                    rfl
                   refine on 19 (fun K hK => ?_)
                   refine Kd.R_append_step k67 (w0 := w) w.heap.size (by rfl) (.tmp 104) (.tmp 121) 22 67 (.agg #[(.int .i64 0), (.int .i64 0), (.int .i64 0), (.int .i64 0)]) 32 rfl Tryz.underlying22 info67 rfl (by decide) (by omega) u104000 x104000_4 (⟨Int.tmod (wrap64 ((rd_T126 l0_0 x11_4).f0)) (wrap64 (1 + (Int.tmod (wrap64 (a0_1)) 4))), x5_4, (⟨t119, t120⟩ : S42)⟩ : S67) [.int .i64 (Int.tmod (wrap64 ((rd_T126 l0_0 x11_4).f0)) (wrap64 (1 + (Int.tmod (wrap64 (a0_1)) 4)))), .int .i64 x5_4, .int .i64 t119, .int .i64 t120] (fun _ => True) (fun _ => False) rfl rfl ?aP (fun _ hk => hk.elim) ?aF ?aO ?aB ?aS ?aL ?_
                   (case aP => exact k67_mkM _ _ _ (⟨Int.tmod (wrap64 ((rd_T126 l0_0 x11_4).f0)) (wrap64 (1 + (Int.tmod (wrap64 (a0_1)) 4))), x5_4, (⟨t119, t120⟩ : S42)⟩ : S67))
                   (case aB => exact (pE HB))
                   (case aF => exact (fun _ _ => trivial))
                   (case aO => exact (pR HO_104000.out))
                   (case aS => exact (below_size (pE HB)))
                   (case aL => have := LMc80.out; omega)
                   intro v122 w92 ho hb hg hat
                   rw [← Ny121.out] at ho
                   replace HO_104001 := Aside0.mk (Kd.R_over' (pR HO_104001.out) (Kd.R_typed (pR HO_104000.out)) (by decide) hg)
                   replace BK101 := Aside0.mk (blk_grown (g := gb101) (o := .cells #[.slice (some ad112) l0_0.length c0_0, .int .u8 a0_1, .slice A0_2 l0_2.length c0_2] 76 (0, 0)) (pB BK101.out) hg (Kd.R_ne HO_104000.out BK101.out (by decide)))
                   replace BK102 := Aside0.mk (blk_grown (g := gb102) (o := .cells #[.slice none 0 0, .slice none 0 0] 25 (0, 0)) (pB BK102.out) hg (Kd.R_ne HO_104000.out BK102.out (by decide)))
                   replace BK103 := Aside0.mk (blk_grown (g := gb103) (o := .cells #[u104000, u104001] 25 (0, 0)) (pB BK103.out) hg (Kd.R_ne HO_104000.out BK103.out (by decide)))
                   replace BK113 := Aside0.mk (blk_grown (g := gb113) (o := .cells #[.int .u8 ((rd_T126 l0_0 x11_4).f0), .int .u8 ((rd_T126 l0_0 x11_4).f1), .int .u8 ((rd_T126 l0_0 x11_4).f2), .int .u8 ((rd_T126 l0_0 x11_4).f3)] 126 (0, 0)) (pB BK113.out) hg (Kd.R_ne HO_104000.out BK113.out (by decide)))
                   replace HB := Aside0.mk (hb)
                   have HO123 := Aside0.mk (ho)
                   clear HO_104000 ho hb hg hat
                   obtain ⟨Ao93, co93, eo93⟩ := Kd.R_slice HO123.out
                   (first | subst eo93 | (injection eo93 with f1_ f2_ f3_; have f4_ := f1_.symm; have f5_ := f3_.symm; clear f1_ f2_ f3_; subst f4_; subst f5_))
                   refine hK.out _ _ ⟨(blk_cell BK103.out 0).trans rfl, (blk_cell BK103.out 1).trans rfl, (blk_cell BK113.out 0).trans rfl, (blk_cell BK113.out 1).trans rfl, (blk_cell BK113.out 2).trans rfl, (blk_cell BK113.out 3).trans rfl⟩ (fun hHeld => ?_)
                   clear hK K
                   refine norm_ (a' := ?_) ?_ ?_
                   rotate_left
                   ·show Act.put _ (some 122) _ = _
                    simp only [Act.put, List.setIfInBounds_toArray, List.set_cons_zero, List.set_cons_succ, i64_w, i32_w]
                    rfl
                   refine pu 20 123 ?_
                   refine last_ (i := 21) (N := none) #[true, true, true, true, true, true, true, true, true, true, true, true, true, true, true, true, true, true, true, true, true, true] rfl rfl (one_of HT_.out (by kernel_rfl)) (by decide) (fun K hK => ?_)
                   have hs94 : w92.cell? ⟨gb103, 0, none⟩ = some (u104000) := (blk_cell BK103.out 0).trans rfl
                   have hfs94 := blk_frozen BK103.out 0
                   have hns94_0 := NB101_103.out
                   have hns94_1 := NB102_103.out
                   have hns94_3 := NB113_103.out
                   have hms94_0 := NB103_101.out
                   have hms94_1 := NB103_102.out
                   have hms94_3 := NB103_113.out
                   refine skip_ (w1 := ?_) (by rfl) rfl ?_ ?_
                   rotate_left
                   ·go_simp
                    rfl
                   refine hK.out _ _ ?_
                   clear hK K
                   refine done_ (done_of HT_.out (by kernel_rfl)) ?_
                   try go_wp2
                   go_roundg kj46
                   case measure => have := HK1.out; have := HK2.out; have := HJ15.out; have := HK4.out; have := HJ46.out; omega
                   case rel => exact ⟨(x5_4), (wrap64 (x11_4 + 1)), (y121), (.slice Ao93 y121.length co93), (by first | rfl | (simp; done) | (simp [*]; done)), (by first | rfl | (simp; done) | (simp [*]; done)), H', ⟨by have := HK1.out; have := HK2.out; have := HJ15.out; have := HK4.out; have := HJ46.out; omega⟩, ⟨by (with_reducible repeat (first | apply Kd.R_alloc | apply Kd.R_drewN | apply Kd.R_drew)); exact Kd.R_mono (Kd.R_far (p := ⟨gb103, 0, none⟩) (Kd.R_types HO123.out BK103.out (by decide)) (fun _ hk => hk.2) (.slice Ao93 y121.length co93)) (fun _ hk => trivial)⟩, ⟨by (with_reducible repeat (first | apply Kd.R_alloc | apply Kd.R_drewN | apply Kd.R_drew)); exact Kd.R_mono (Kd.R_far (p := ⟨gb103, 0, none⟩) (Kd.R_types HO_104001.out BK103.out (by decide)) (fun _ hk => hk.2) (.slice Ao93 y121.length co93)) (fun _ hk => trivial)⟩, ⟨pF BK101⟩, ⟨pF BK102⟩, ⟨by refine pB ?_; refine blk_put (cs := #[u104000, u104001]) ?_ 0 _ rfl; exact pB BK103.out⟩, ⟨pE HB⟩⟩
                  ·rw [if_neg c80] at H
                   exact absurd H (by simp)
               ·rw [if_neg c57] at H
                exact absurd H (by simp)
              ·rw [if_neg c56] at H
               exact absurd H (by simp)
             ·replace c55 := Bool.eq_false_iff.mpr c55
              subst c55
              rw [if_neg (show ¬ (false = true) by decide)] at H
              simp only [Option.some.injEq, Prod.mk.injEq] at H
              obtain ⟨rfl, rfl⟩ := H
              have hnb95 := NB103_101.out
              have hnc95 := NB101_103.out
              have hnb96 := NB103_102.out
              have hnc96 := NB102_103.out
              obtain ⟨_, _, _, _⟩ := cf2 BK103
              obtain ⟨Ao98, co98, eo98⟩ := Kd.R_slice HO_104000.out
              subst eo98
              have hnb99 := NB102_101.out
              have hnc99 := NB101_102.out
              obtain ⟨_, _, _, _⟩ := cf2 BK102
              obtain ⟨Ao101, co101, eo101⟩ := Kd.R_slice HO_104001.out
              subst eo101
              go_wp2
              refine bodyPost_ret (results_cell_row rfl _ _ gb102 25 #[.slice Ao98 x104000_4.length co98, .slice Ao101 x104001_2.length co101] (0, 0) _ rfl (by refine pB ?_; refine blk_put (cs := #[.slice Ao98 x104000_4.length co98, .slice none 0 0]) ?_ 1 _ rfl; refine pB ?_; refine blk_put (cs := #[.slice none 0 0, .slice none 0 0]) ?_ 0 _ rfl; exact pB BK102.out) Tryz.underlying25 rfl (by kernel_rfl)) rfl ?_
              exact ⟨_, _, eT, by (with_reducible repeat (first | apply Kd.R_alloc | apply Kd.R_drewN | apply Kd.R_drew)); exact Kd.R_mono (Kd.R_far (p := ⟨gb102, 1, none⟩) (Kd.R_far (p := ⟨gb102, 0, none⟩) (Kd.R_types HO_104000.out BK102.out (by decide)) (fun _ hk => hk.2) (.slice Ao98 x104000_4.length co98)) (fun _ hk => hk.2) (.slice Ao101 x104001_2.length co101)) (fun _ hk => trivial), by (with_reducible repeat (first | apply Kd.R_alloc | apply Kd.R_drewN | apply Kd.R_drew)); exact Kd.R_mono (Kd.R_far (p := ⟨gb102, 1, none⟩) (Kd.R_far (p := ⟨gb102, 0, none⟩) (Kd.R_types HO_104001.out BK102.out (by decide)) (fun _ hk => hk.2) (.slice Ao98 x104000_4.length co98)) (fun _ hk => hk.2) (.slice Ao101 x104001_2.length co101)) (fun _ hk => trivial), pE HB⟩
def walkmilllaw04_own.f (l0_0 : List (S67)) (l0_1 : List Int) : Option ((List (S67)) × List Int) := (some (([] : List (S67)) : List (S67))).bind fun y103 => (if y103.length + l0_0.length < 4398046511104 then ((some (([] : List Int) : List Int)).bind fun y109 => (if y109.length + l0_1.length < 17592186044416 then (some ((y103 ++ l0_0), (y109 ++ l0_1))) else (none))) else (none))
def walkmilllaw04_own.T1 : Bool × List (List Nat × List Nat) := (true, [([], []), ([], []), ([1], [1]), ([0, 2], [0, 2]), ([], []), ([], []), ([5], [5]), ([4, 6, 3], [4, 6]), ([3, 7], [3, 7]), ([8, 7, 0, 1, 2, 3, 4, 5, 6, 7, 8], [8])])
def walkmilllaw04_own.B1 : List Nat := [0, 0, 2, 7, 0, 0, 32, 127, 255, 511]
theorem walkmilllaw04_own.tab1 : rtab .any (opsOf Tryz.f49 1) = walkmilllaw04_own.T1 := by kernel_rfl
theorem walkmilllaw04_own.bits1 : waitsOk walkmilllaw04_own.T1.2 walkmilllaw04_own.B1 = true := by kernel_rfl
set_option maxHeartbeats 8000000 in
set_option maxRecDepth 100000 in
theorem walkmilllaw04_own.calls (A0_0 : Option Addr) (c0_0 : Nat) (l0_0 : List (S67)) (A0_1 : Option Addr) (c0_1 : Nat) (l0_1 : List Int) (r1 : List (S67)) (r2 : List Int) (w : World) (hr0_0 : Kd.C k67 w A0_0 l0_0.length l0_0) (hc0_0 : l0_0.length ≤ c0_0) (hr0_1 : Kd.C (Kd.int .i64) w A0_1 l0_1.length l0_1) (hc0_1 : l0_1.length ≤ c0_1) (h : walkmilllaw04_own.f l0_0 l0_1 = some (r1, r2)) :
  Calls Tryz.prog 49 #[.agg #[.slice A0_0 l0_0.length c0_0, .slice A0_1 l0_1.length c0_1]] w fun e w' => ∃ v0_ v1_ : Value, e = .returned (.agg #[v0_, v1_]) ∧ Kd.R k67 67 w' w.heap.size (fun _ => True) v0_ r1 ∧ Kd.R (Kd.int .i64) 3 w' w.heap.size (fun _ => True) v1_ r2 ∧ Below w.heap.size w w' := by
 have hu25 := Tryz.underlying25
 have HR0_0 := Aside0.mk hr0_0
 have HC0_0 := Aside0.mk hc0_0
 clear hr0_0 hc0_0
 have HR0_1 := Aside0.mk hr0_1
 have HC0_1 := Aside0.mk hc0_1
 clear hr0_1 hc0_1
 have HB := Aside0.mk (Below.refl w.heap.size w)
 have H : ((some (([] : List (S67)) : List (S67))).bind fun y103 => (if y103.length + l0_0.length < 4398046511104 then ((some (([] : List Int) : List Int)).bind fun y109 => (if y109.length + l0_1.length < 17592186044416 then (some ((y103 ++ l0_0), (y109 ++ l0_1))) else (none))) else (none))) = some (r1, r2) := h
 clear h
 obtain ⟨y103, hy103⟩ : ∃ y_ : List (S67), y_ = (([] : List (S67))) := ⟨_, rfl⟩
 replace H : (if y103.length + l0_0.length < 4398046511104 then ((some (([] : List Int) : List Int)).bind fun y109 => (if y109.length + l0_1.length < 17592186044416 then (some ((y103 ++ l0_0), (y109 ++ l0_1))) else (none))) else (none)) = some (r1, r2) := yy hy103 H
 have Ny103 := Aside0.mk hy103
 clear hy103
 by_cases c2 : y103.length + l0_0.length < 4398046511104
 ·rw [if_pos c2] at H
  have LMc2 := Aside0.mk c2
  clear c2
  obtain ⟨y106, hy106⟩ : ∃ y_ : List (S67), y_ = (y103 ++ l0_0) := ⟨_, rfl⟩
  replace H : ((some (([] : List Int) : List Int)).bind fun y109 => (if y109.length + l0_1.length < 17592186044416 then (some (y106, (y109 ++ l0_1))) else (none))) = some (r1, r2) := yy hy106 H
  have Ny106 := Aside0.mk hy106
  clear hy106
  obtain ⟨y109, hy109⟩ : ∃ y_ : List Int, y_ = (([] : List Int)) := ⟨_, rfl⟩
  replace H : (if y109.length + l0_1.length < 17592186044416 then (some (y106, (y109 ++ l0_1))) else (none)) = some (r1, r2) := yy hy109 H
  have Ny109 := Aside0.mk hy109
  clear hy109
  by_cases c3 : y109.length + l0_1.length < 17592186044416
  ·rw [if_pos c3] at H
   have LMc3 := Aside0.mk c3
   clear c3
   obtain ⟨y112, hy112⟩ : ∃ y_ : List Int, y_ = (y109 ++ l0_1) := ⟨_, rfl⟩
   replace H : (some (y106, y112)) = some (r1, r2) := yy hy112 H
   have Ny112 := Aside0.mk hy112
   clear hy112
   simp only [Option.some.injEq, Prod.mk.injEq] at H
   obtain ⟨rfl, rfl⟩ := H
   go_enter Tryz.func49, Tryz.ntmps49
   try go_wp2_with (first | ((with_reducible refine gate_dst (N := 1) rfl ?_); refine bx 1 #[.slice A0_0 l0_0.length c0_0, .slice A0_1 l0_1.length c0_1] 25 ?_; intro gb101 hg w4 hbox hb; have BK101 := hbox; have GW101 := gs HB hg; have GE101 := gs HB hg; replace HB := bs HB hb; clear hb hbox hg) | ((with_reducible refine gate_dst (N := 2) rfl ?_); refine bx 2 #[.slice none 0 0, .slice none 0 0] 25 ?_; intro gb102 hg w5 hbox hb; have BK102 := hbox; have GW102 := gs HB hg; have GE102 := gs HB hg; replace HB := bs HB hb; have NB101_102 := nl BK101 hg; have NB102_101 := nr BK101 hg; replace BK101 := bb BK101 hb; clear hb hbox hg))
   replace BK101 := Aside0.mk (blk_drew BK101.out)
   replace BK102 := Aside0.mk (blk_drew BK102.out)
   replace HB := Aside0.mk (below_drew1 HB.out)
   refine start_ (n := 10) (S := fun w' => w'.cell? ⟨gb101, 0, none⟩ = some (.slice A0_0 l0_0.length c0_0) ∧ w'.cell? ⟨gb101, 1, none⟩ = some (.slice A0_1 l0_1.length c0_1)) (ds := []) #[false, false, false, false, false, false, false, false, false, false] (by kernel_rfl) rfl rfl ⟨(blk_cell BK101.out 0).trans rfl, (blk_cell BK101.out 1).trans rfl⟩ (fun hHeld => ?_); refine with_tabW walkmilllaw04_own.tab1 walkmilllaw04_own.bits1 (fun HT_ HW_ => ?_)
   generalize w5.drew = w6 at BK101 BK102 HB hHeld ⊢
   refine pu 1 4 ?_
   refine pu 5 8 ?_
   refine tk 2 5 hHeld ?_
   refine tk 6 9 hHeld ?_
   refine join_ (σ := Value × Value × Value) 3 #[true, true, true, true, true, true, true, false, false, false] (fun s_ => [(3, s_.1), (6, s_.2.1), (7, s_.2.2)]) (fun s_ w' => (w'.cell? ⟨gb101, 0, none⟩ = some (.slice A0_0 l0_0.length c0_0) ∧ w'.cell? ⟨gb101, 1, none⟩ = some (.slice A0_1 l0_1.length c0_1)) ∧ (Kd.R k67 67 w' w.heap.size (fun _ => True) s_.2.1 y106) ∧ (Kd.R (Kd.int .i64) 3 w' w.heap.size (fun _ => True) s_.2.2 y109) ∧ (w'.heap[gb101]? = some (.cells #[.slice A0_0 l0_0.length c0_0, .slice A0_1 l0_1.length c0_1] 25 (0, 0))) ∧ (w'.heap[gb102]? = some (.cells #[.slice none 0 0, .slice none 0 0] 25 (0, 0))) ∧ (Below w.heap.size w w')) ?_ ?_
   rotate_left
   ·intro hCont
    refine two_ (i := 0) (j := 4) (Ni := some 3) (Nj := some 7) #[true, true, true, false, false, true, true, false, false, false] #[false, true, true, false, true, true, true, false, false, false] rfl rfl rfl rfl (two_of HT_.out (by kernel_rfl)) (by decide) (by decide) (fun K hK => ?_) (fun K hK => ?_)
    ·skip
     refine Kd.R_lit_step k67 _ 67 ?hg (N := 3) ?hd (xs := ([] : List (S67))) (inner := []) (ok := fun _ => True) (okp := fun _ => True) ?hr ?hp (fun _ hk => hk) trivial (Below.refl _ _) (Nat.le_refl _) (by simp) ?_; (case hd => rfl); (case hg => rfl); (case hr => first | (go_simp; done) | (go_simp; rfl)); (case hp => exact (Reps.none _ _))
     intro v104 w7 ho8 hb hg_ hnew_
     clear hg_ hnew_
     (first | rw [← Ny103.out] at ho8 | (simp only [Int.reduceToNat] at ho8; rw [← Ny103.out] at ho8))
     have HO105 := rl ho8 HB
     replace BK101 := bb BK101 hb
     replace BK102 := bb BK102 hb
     replace HB := bs HB hb
     clear hb ho8
     refine hK.out _ _ ⟨(blk_cell BK101.out 0).trans rfl, (blk_cell BK101.out 1).trans rfl⟩ (fun hHeld => ?_)
     clear hK K
     refine norm_ (a' := ?_) ?_ ?_
     rotate_left
     ·show Act.put _ (some 3) _ = _
      simp only [Act.put, List.setIfInBounds_toArray, List.set_cons_zero, List.set_cons_succ, i64_w, i32_w]
      rfl
     refine two_ (i := 3) (j := 4) (Ni := some 6) (Nj := some 7) #[true, true, true, true, false, true, true, false, false, false] #[true, true, true, false, true, true, true, false, false, false] rfl rfl rfl rfl (two_of HT_.out (by kernel_rfl)) (by decide) (by decide) (fun K hK => ?_) (fun K hK => ?_)
     ·skip
      refine Kd.R_append_rows_step k67 (w0 := w) w.heap.size (by rfl) (.tmp 3) (.tmp 5) 22 67 (.agg #[(.int .i64 0), (.int .i64 0), (.int .i64 0), (.int .i64 0)]) 32 rfl Tryz.underlying22 info67 rfl (by decide) (by omega) v104 y103 l0_0 _ _ _ (fun _ => True) (fun _ => False) rfl rfl ?aO ?aR (fun _ _ h => h) (fun _ h => h.elim) ?aF ?aB ?aS ?aL ?_
      (case aR => exact pC (Kd.C_below HR0_0.out HB.out))
      (case aB => exact (pE HB))
      (case aF => exact (fun _ _ => trivial))
      (case aO => exact (pR HO105.out))
      (case aS => exact (below_size (pE HB)))
      (case aL => have := LMc2.out; omega)
      intro v107 w9 ho hb hg hat
      rw [← Ny106.out] at ho
      replace BK101 := Aside0.mk (blk_grown (g := gb101) (o := .cells #[.slice A0_0 l0_0.length c0_0, .slice A0_1 l0_1.length c0_1] 25 (0, 0)) (pB BK101.out) hg (Kd.R_ne HO105.out BK101.out (by decide)))
      replace BK102 := Aside0.mk (blk_grown (g := gb102) (o := .cells #[.slice none 0 0, .slice none 0 0] 25 (0, 0)) (pB BK102.out) hg (Kd.R_ne HO105.out BK102.out (by decide)))
      replace HB := Aside0.mk (hb)
      have HO108 := Aside0.mk (ho)
      clear HO105 ho hb hg hat
      refine hK.out _ _ ⟨(blk_cell BK101.out 0).trans rfl, (blk_cell BK101.out 1).trans rfl⟩ (fun hHeld => ?_)
      clear hK K
      refine norm_ (a' := ?_) ?_ ?_
      rotate_left
      ·show Act.put _ (some 6) _ = _
       simp only [Act.put, List.setIfInBounds_toArray, List.set_cons_zero, List.set_cons_succ, i64_w, i32_w]
       rfl
      refine on 4 (fun K hK => ?_)
      refine Kd.R_lit_step (Kd.int .i64) _ 3 ?hg (N := 7) ?hd (xs := ([] : List Int)) (inner := []) (ok := fun _ => True) (okp := fun _ => True) ?hr ?hp (fun _ hk => hk) trivial (Below.refl _ _) (Nat.le_refl _) (by simp) ?_; (case hd => rfl); (case hg => rfl); (case hr => first | (go_simp; done) | (go_simp; rfl)); (case hp => exact (Reps.none _ _))
      intro v110 w10 ho11 hb hg_ hnew_
      clear hg_ hnew_
      (first | rw [← Ny109.out] at ho11 | (simp only [Int.reduceToNat] at ho11; rw [← Ny109.out] at ho11))
      replace HO108 := rb HO108 hb
      have HO111 := rl ho11 HB
      replace BK101 := bb BK101 hb
      replace BK102 := bb BK102 hb
      replace HB := bs HB hb
      clear hb ho11
      refine hK.out _ _ ⟨(blk_cell BK101.out 0).trans rfl, (blk_cell BK101.out 1).trans rfl⟩ (fun hHeld => ?_)
      clear hK K
      refine norm_ (a' := ?_) ?_ ?_
      rotate_left
      ·show Act.put _ (some 7) _ = _
       simp only [Act.put, List.setIfInBounds_toArray, List.set_cons_zero, List.set_cons_succ, i64_w, i32_w]
       rfl
      exact norm_ (by simp only [putAll, Act.put, List.setIfInBounds_toArray, List.set_cons_zero, List.set_cons_succ]) (hCont (v104, v107, v110) _ ⟨hHeld, (pR HO108.out), (pR HO111.out), (pB BK101.out), (pB BK102.out), (pE HB)⟩)
     ·skip
      refine Kd.R_lit_step (Kd.int .i64) _ 3 ?hg (N := 7) ?hd (xs := ([] : List Int)) (inner := []) (ok := fun _ => True) (okp := fun _ => True) ?hr ?hp (fun _ hk => hk) trivial (Below.refl _ _) (Nat.le_refl _) (by simp) ?_; (case hd => rfl); (case hg => rfl); (case hr => first | (go_simp; done) | (go_simp; rfl)); (case hp => exact (Reps.none _ _))
      intro v110 w9 ho10 hb hg_ hnew_
      clear hg_ hnew_
      (first | rw [← Ny109.out] at ho10 | (simp only [Int.reduceToNat] at ho10; rw [← Ny109.out] at ho10))
      replace HO105 := rb HO105 hb
      have HO111 := rl ho10 HB
      replace BK101 := bb BK101 hb
      replace BK102 := bb BK102 hb
      replace HB := bs HB hb
      clear hb ho10
      refine hK.out _ _ ⟨(blk_cell BK101.out 0).trans rfl, (blk_cell BK101.out 1).trans rfl⟩ (fun hHeld => ?_)
      clear hK K
      refine norm_ (a' := ?_) ?_ ?_
      rotate_left
      ·show Act.put _ (some 7) _ = _
       simp only [Act.put, List.setIfInBounds_toArray, List.set_cons_zero, List.set_cons_succ, i64_w, i32_w]
       rfl
      refine on 3 (fun K hK => ?_)
      refine Kd.R_append_rows_step k67 (w0 := w) w.heap.size (by rfl) (.tmp 3) (.tmp 5) 22 67 (.agg #[(.int .i64 0), (.int .i64 0), (.int .i64 0), (.int .i64 0)]) 32 rfl Tryz.underlying22 info67 rfl (by decide) (by omega) v104 y103 l0_0 _ _ _ (fun _ => True) (fun _ => False) rfl rfl ?aO ?aR (fun _ _ h => h) (fun _ h => h.elim) ?aF ?aB ?aS ?aL ?_
      (case aR => exact pC (Kd.C_below HR0_0.out HB.out))
      (case aB => exact (pE HB))
      (case aF => exact (fun _ _ => trivial))
      (case aO => exact (pR HO105.out))
      (case aS => exact (below_size (pE HB)))
      (case aL => have := LMc2.out; omega)
      intro v107 w11 ho hb hg hat
      rw [← Ny106.out] at ho
      replace BK101 := Aside0.mk (blk_grown (g := gb101) (o := .cells #[.slice A0_0 l0_0.length c0_0, .slice A0_1 l0_1.length c0_1] 25 (0, 0)) (pB BK101.out) hg (Kd.R_ne HO105.out BK101.out (by decide)))
      replace BK102 := Aside0.mk (blk_grown (g := gb102) (o := .cells #[.slice none 0 0, .slice none 0 0] 25 (0, 0)) (pB BK102.out) hg (Kd.R_ne HO105.out BK102.out (by decide)))
      replace HO111 := Aside0.mk (Kd.R_over' (pR HO111.out) (Kd.R_typed (pR HO105.out)) (by decide) hg)
      replace HB := Aside0.mk (hb)
      have HO108 := Aside0.mk (ho)
      clear HO105 ho hb hg hat
      refine hK.out _ _ ⟨(blk_cell BK101.out 0).trans rfl, (blk_cell BK101.out 1).trans rfl⟩ (fun hHeld => ?_)
      clear hK K
      refine norm_ (a' := ?_) ?_ ?_
      rotate_left
      ·show Act.put _ (some 6) _ = _
       simp only [Act.put, List.setIfInBounds_toArray, List.set_cons_zero, List.set_cons_succ, i64_w, i32_w]
       rfl
      exact norm_ (by simp only [putAll, Act.put, List.setIfInBounds_toArray, List.set_cons_zero, List.set_cons_succ]) (hCont (v104, v107, v110) _ ⟨hHeld, (pR HO108.out), (pR HO111.out), (pB BK101.out), (pB BK102.out), (pE HB)⟩)
    ·skip
     refine Kd.R_lit_step (Kd.int .i64) _ 3 ?hg (N := 7) ?hd (xs := ([] : List Int)) (inner := []) (ok := fun _ => True) (okp := fun _ => True) ?hr ?hp (fun _ hk => hk) trivial (Below.refl _ _) (Nat.le_refl _) (by simp) ?_; (case hd => rfl); (case hg => rfl); (case hr => first | (go_simp; done) | (go_simp; rfl)); (case hp => exact (Reps.none _ _))
     intro v110 w7 ho8 hb hg_ hnew_
     clear hg_ hnew_
     (first | rw [← Ny109.out] at ho8 | (simp only [Int.reduceToNat] at ho8; rw [← Ny109.out] at ho8))
     have HO111 := rl ho8 HB
     replace BK101 := bb BK101 hb
     replace BK102 := bb BK102 hb
     replace HB := bs HB hb
     clear hb ho8
     refine hK.out _ _ ⟨(blk_cell BK101.out 0).trans rfl, (blk_cell BK101.out 1).trans rfl⟩ (fun hHeld => ?_)
     clear hK K
     refine norm_ (a' := ?_) ?_ ?_
     rotate_left
     ·show Act.put _ (some 7) _ = _
      simp only [Act.put, List.setIfInBounds_toArray, List.set_cons_zero, List.set_cons_succ, i64_w, i32_w]
      rfl
     refine on 0 (fun K hK => ?_)
     refine Kd.R_lit_step k67 _ 67 ?hg (N := 3) ?hd (xs := ([] : List (S67))) (inner := []) (ok := fun _ => True) (okp := fun _ => True) ?hr ?hp (fun _ hk => hk) trivial (Below.refl _ _) (Nat.le_refl _) (by simp) ?_; (case hd => rfl); (case hg => rfl); (case hr => first | (go_simp; done) | (go_simp; rfl)); (case hp => exact (Reps.none _ _))
     intro v104 w9 ho10 hb hg_ hnew_
     clear hg_ hnew_
     (first | rw [← Ny103.out] at ho10 | (simp only [Int.reduceToNat] at ho10; rw [← Ny103.out] at ho10))
     replace HO111 := rb HO111 hb
     have HO105 := rl ho10 HB
     replace BK101 := bb BK101 hb
     replace BK102 := bb BK102 hb
     replace HB := bs HB hb
     clear hb ho10
     refine hK.out _ _ ⟨(blk_cell BK101.out 0).trans rfl, (blk_cell BK101.out 1).trans rfl⟩ (fun hHeld => ?_)
     clear hK K
     refine norm_ (a' := ?_) ?_ ?_
     rotate_left
     ·show Act.put _ (some 3) _ = _
      simp only [Act.put, List.setIfInBounds_toArray, List.set_cons_zero, List.set_cons_succ, i64_w, i32_w]
      rfl
     refine on 3 (fun K hK => ?_)
     refine Kd.R_append_rows_step k67 (w0 := w) w.heap.size (by rfl) (.tmp 3) (.tmp 5) 22 67 (.agg #[(.int .i64 0), (.int .i64 0), (.int .i64 0), (.int .i64 0)]) 32 rfl Tryz.underlying22 info67 rfl (by decide) (by omega) v104 y103 l0_0 _ _ _ (fun _ => True) (fun _ => False) rfl rfl ?aO ?aR (fun _ _ h => h) (fun _ h => h.elim) ?aF ?aB ?aS ?aL ?_
     (case aR => exact pC (Kd.C_below HR0_0.out HB.out))
     (case aB => exact (pE HB))
     (case aF => exact (fun _ _ => trivial))
     (case aO => exact (pR HO105.out))
     (case aS => exact (below_size (pE HB)))
     (case aL => have := LMc2.out; omega)
     intro v107 w11 ho hb hg hat
     rw [← Ny106.out] at ho
     replace BK101 := Aside0.mk (blk_grown (g := gb101) (o := .cells #[.slice A0_0 l0_0.length c0_0, .slice A0_1 l0_1.length c0_1] 25 (0, 0)) (pB BK101.out) hg (Kd.R_ne HO105.out BK101.out (by decide)))
     replace BK102 := Aside0.mk (blk_grown (g := gb102) (o := .cells #[.slice none 0 0, .slice none 0 0] 25 (0, 0)) (pB BK102.out) hg (Kd.R_ne HO105.out BK102.out (by decide)))
     replace HO111 := Aside0.mk (Kd.R_over' (pR HO111.out) (Kd.R_typed (pR HO105.out)) (by decide) hg)
     replace HB := Aside0.mk (hb)
     have HO108 := Aside0.mk (ho)
     clear HO105 ho hb hg hat
     refine hK.out _ _ ⟨(blk_cell BK101.out 0).trans rfl, (blk_cell BK101.out 1).trans rfl⟩ (fun hHeld => ?_)
     clear hK K
     refine norm_ (a' := ?_) ?_ ?_
     rotate_left
     ·show Act.put _ (some 6) _ = _
      simp only [Act.put, List.setIfInBounds_toArray, List.set_cons_zero, List.set_cons_succ, i64_w, i32_w]
      rfl
     exact norm_ (by simp only [putAll, Act.put, List.setIfInBounds_toArray, List.set_cons_zero, List.set_cons_succ]) (hCont (v104, v107, v110) _ ⟨hHeld, (pR HO108.out), (pR HO111.out), (pB BK101.out), (pB BK102.out), (pE HB)⟩)
   rintro ⟨v104, v107, v110⟩ w12 ⟨hS_, h0_, h1_, h2_, h3_, h4_⟩
   have n0_ : Aside0 (Kd.R k67 67 w12 w.heap.size (fun _ => True) v107 y106) := ⟨h0_⟩
   have n1_ : Aside0 (Kd.R (Kd.int .i64) 3 w12 w.heap.size (fun _ => True) v110 y109) := ⟨h1_⟩
   have n2_ : Aside0 (w12.heap[gb101]? = some (.cells #[.slice A0_0 l0_0.length c0_0, .slice A0_1 l0_1.length c0_1] 25 (0, 0))) := ⟨h2_⟩
   have n3_ : Aside0 (w12.heap[gb102]? = some (.cells #[.slice none 0 0, .slice none 0 0] 25 (0, 0))) := ⟨h3_⟩
   have n4_ : Aside0 (Below w.heap.size w w12) := ⟨h4_⟩
   clear BK101 BK102 HB h0_ h1_ h2_ h3_ h4_
   have HO108 := n0_
   have HO111 := n1_
   have BK101 := n2_
   have BK102 := n3_
   have HB := n4_
   clear n0_ n1_ n2_ n3_ n4_
   have hHeld : w12.cell? ⟨gb101, 0, none⟩ = some (.slice A0_0 l0_0.length c0_0) ∧ w12.cell? ⟨gb101, 1, none⟩ = some (.slice A0_1 l0_1.length c0_1) := hS_
   refine norm_ (a' := ?_) ?_ ?_
   rotate_left
   ·simp only [putAll, Act.put, List.setIfInBounds_toArray, List.set_cons_zero, List.set_cons_succ]
    rfl
   refine on 7 (fun K hK => ?_)
   refine Kd.R_append_rows_step (Kd.int .i64) (w0 := w) w.heap.size (by rfl) (.tmp 7) (.tmp 9) 23 3 (.int .i64 0) 8 rfl Tryz.underlying23 info3 rfl (by decide) (by omega) v110 y109 l0_1 _ _ _ (fun _ => True) (fun _ => False) rfl rfl ?aO ?aR (fun _ _ h => h) (fun _ h => h.elim) ?aF ?aB ?aS ?aL ?_
   (case aR => exact pC (Kd.C_below HR0_1.out HB.out))
   (case aB => exact (pE HB))
   (case aF => exact (fun _ _ => trivial))
   (case aO => exact (pR HO111.out))
   (case aS => exact (below_size (pE HB)))
   (case aL => have := LMc3.out; omega)
   intro v113 w13 ho hb hg hat
   rw [← Ny112.out] at ho
   replace BK101 := Aside0.mk (blk_grown (g := gb101) (o := .cells #[.slice A0_0 l0_0.length c0_0, .slice A0_1 l0_1.length c0_1] 25 (0, 0)) (pB BK101.out) hg (Kd.R_ne HO111.out BK101.out (by decide)))
   replace BK102 := Aside0.mk (blk_grown (g := gb102) (o := .cells #[.slice none 0 0, .slice none 0 0] 25 (0, 0)) (pB BK102.out) hg (Kd.R_ne HO111.out BK102.out (by decide)))
   replace HO108 := Aside0.mk (Kd.R_over' (pR HO108.out) (Kd.R_typed (pR HO111.out)) (by decide) hg)
   replace HB := Aside0.mk (hb)
   have HO114 := Aside0.mk (ho)
   clear HO111 ho hb hg hat
   obtain ⟨Ao14, co14, eo14⟩ := Kd.R_slice HO114.out
   (first | subst eo14 | (injection eo14 with f1_ f2_ f3_; have f4_ := f1_.symm; have f5_ := f3_.symm; clear f1_ f2_ f3_; subst f4_; subst f5_))
   obtain ⟨Ao15, co15, eo15⟩ := Kd.R_slice HO108.out
   (first | subst eo15 | (injection eo15 with f1_ f2_ f3_; have f4_ := f1_.symm; have f5_ := f3_.symm; clear f1_ f2_ f3_; subst f4_; subst f5_))
   refine hK.out _ _ ⟨(blk_cell BK101.out 0).trans rfl, (blk_cell BK101.out 1).trans rfl⟩ (fun hHeld => ?_)
   clear hK K
   refine norm_ (a' := ?_) ?_ ?_
   rotate_left
   ·show Act.put _ (some 10) _ = _
    simp only [Act.put, List.setIfInBounds_toArray, List.set_cons_zero, List.set_cons_succ, i64_w, i32_w]
    rfl
   refine pu 8 11 ?_
   refine on 9 (fun K hK => ?_)
   have hs16 : w13.cell? ⟨gb102, 0, none⟩ = some (.slice none 0 0) := (blk_cell BK102.out 0).trans rfl
   have hfs16 := blk_frozen BK102.out 0
   have hns16_0 := NB101_102.out
   have hms16_0 := NB102_101.out
   have hs17 : w13.cell? ⟨gb102, 1, none⟩ = some (.slice none 0 0) := (blk_cell BK102.out 1).trans rfl
   have hfs17 := blk_frozen BK102.out 1
   have hns17_0 := NB101_102.out
   have hms17_0 := NB102_101.out
   refine skip_ (w1 := ?_) (by rfl) rfl ?_ ?_
   rotate_left
   ·go_simp
    rfl
   refine hK.out _ _ ⟨((cell_far (p := ⟨gb102, _, none⟩) NB101_102.out _).trans (((cell_far (p := ⟨gb102, _, none⟩) NB101_102.out _).trans (hHeld.1)))), ((cell_far (p := ⟨gb102, _, none⟩) NB101_102.out _).trans (((cell_far (p := ⟨gb102, _, none⟩) NB101_102.out _).trans (hHeld.2))))⟩ (fun hHeld => ?_)
   clear hK K
   refine done_ (done_of HT_.out (by kernel_rfl)) ?_
   try go_wp2
   refine bodyPost_ret (results_cell_row rfl _ _ gb102 25 #[.slice Ao15 y106.length co15, .slice Ao14 y112.length co14] (0, 0) _ rfl (by refine pB ?_; refine blk_put (cs := #[.slice Ao15 y106.length co15, .slice none 0 0]) ?_ 1 _ rfl; refine pB ?_; refine blk_put (cs := #[.slice none 0 0, .slice none 0 0]) ?_ 0 _ rfl; exact pB BK102.out) Tryz.underlying25 rfl (by kernel_rfl)) rfl ?_
   exact ⟨_, _, eT, by (with_reducible repeat (first | apply Kd.R_alloc | apply Kd.R_drewN | apply Kd.R_drew)); exact Kd.R_mono (Kd.R_far (p := ⟨gb102, 1, none⟩) (Kd.R_far (p := ⟨gb102, 0, none⟩) (Kd.R_types HO108.out BK102.out (by decide)) (fun _ hk => hk.2) (.slice Ao15 y106.length co15)) (fun _ hk => hk.2) (.slice Ao14 y112.length co14)) (fun _ hk => trivial), by (with_reducible repeat (first | apply Kd.R_alloc | apply Kd.R_drewN | apply Kd.R_drew)); exact Kd.R_mono (Kd.R_far (p := ⟨gb102, 1, none⟩) (Kd.R_far (p := ⟨gb102, 0, none⟩) (Kd.R_types HO114.out BK102.out (by decide)) (fun _ hk => hk.2) (.slice Ao15 y106.length co15)) (fun _ hk => hk.2) (.slice Ao14 y112.length co14)) (fun _ hk => trivial), pE HB⟩
  ·rw [if_neg c3] at H
   exact absurd H (by simp)
 ·rw [if_neg c2] at H
  exact absurd H (by simp)
mutual
def walkmilllaw04_once.l0 : Nat → List Int → Int → List Bool → Int → Option (Bool)
 | 0, _, _, _, _ => none
 | k + 1, x0, x1, x5, x6 => if x6 < (x0.length : Int) then (if 0 ≤ x6 then (if (rd x0 x6) < 0 then (walkmilllaw04_once.j1 k x0 x1 x5 x6 true) else (if (rd x0 x6) ≥ x1 then (walkmilllaw04_once.j1 k x0 x1 x5 x6 true) else (if 0 ≤ (rd x0 x6) then (if (rd x0 x6) < (x5.length : Int) then (walkmilllaw04_once.j1 k x0 x1 x5 x6 (rdOf false x5 (rd x0 x6))) else (none)) else (none)))) else (none)) else (some ((x0.length : Int) == x1))
def walkmilllaw04_once.j1 : Nat → List Int → Int → List Bool → Int → Bool → Option (Bool)
 | 0, _, _, _, _, _ => none
 | k + 1, x0, x1, x5, x6, x36 => if x36 = true then (some false) else (if 0 ≤ x6 then (if x6 < (x0.length : Int) then (if 0 ≤ (rd x0 x6) then (if (rd x0 x6) < (x5.length : Int) then (walkmilllaw04_once.l0 k x0 x1 (x5.set ((rd x0 x6) : Int).toNat true) (wrap64 (x6 + 1))) else (none)) else (none)) else (none)) else (none))
end
def walkmilllaw04_once.f (k : Nat) (l0 : List Int) (a1 : Int) : Option (Bool) := if 0 ≤ a1 then (if (a1 : Int).toNat ≤ 281474976710656 then (walkmilllaw04_once.l0 k l0 a1 (List.replicate (a1 : Int).toNat false) 0) else (none)) else (none)
theorem walkmilllaw04_once.mono_l : ∀ k, (∀ y0 y1 y2 y3, LeO (walkmilllaw04_once.l0 k y0 y1 y2 y3) (walkmilllaw04_once.l0 (k + 1) y0 y1 y2 y3)) ∧ (∀ y0 y1 y2 y3 y4, LeO (walkmilllaw04_once.j1 k y0 y1 y2 y3 y4) (walkmilllaw04_once.j1 (k + 1) y0 y1 y2 y3 y4))
 | 0 => ⟨fun _ _ _ _ r h => by simp [walkmilllaw04_once.l0] at h, fun _ _ _ _ _ r h => by simp [walkmilllaw04_once.j1] at h⟩
 | k + 1 => by
  obtain ⟨ih0, ih1⟩ := walkmilllaw04_once.mono_l k
  refine ⟨?_, ?_⟩
  ·intro y0 y1 y2 y3
   unfold walkmilllaw04_once.l0
   repeat' first
   | (with_reducible exact ih0 _ _ _ _)
   | (with_reducible exact ih1 _ _ _ _ _)
   | (with_reducible exact LeO.refl _)
   | (with_reducible exact LeO.none _)
   | (with_reducible refine LeO.ite ?_ ?_)
   | (with_reducible refine LeO.bind ?_ (fun _ => ?_))
   | exact ih0 _ _ _ _
   | exact ih1 _ _ _ _ _
   | exact LeO.none _
   | refine LeO.ite ?_ ?_
   | refine LeO.bind ?_ (fun _ => ?_)
  ·intro y0 y1 y2 y3 y4
   unfold walkmilllaw04_once.j1
   repeat' first
   | (with_reducible exact ih0 _ _ _ _)
   | (with_reducible exact ih1 _ _ _ _ _)
   | (with_reducible exact LeO.refl _)
   | (with_reducible exact LeO.none _)
   | (with_reducible refine LeO.ite ?_ ?_)
   | (with_reducible refine LeO.bind ?_ (fun _ => ?_))
   | exact ih0 _ _ _ _
   | exact ih1 _ _ _ _ _
   | exact LeO.none _
   | refine LeO.ite ?_ ?_
   | refine LeO.bind ?_ (fun _ => ?_)
theorem walkmilllaw04_once.mono : ∀ a0 a1 k, LeO (walkmilllaw04_once.f k a0 a1) (walkmilllaw04_once.f (k + 1) a0 a1) := by
 intro a0 a1 k
 obtain ⟨ih0, ih1⟩ := walkmilllaw04_once.mono_l k
 unfold walkmilllaw04_once.f
 repeat' first
   | (with_reducible exact ih0 _ _ _ _)
   | (with_reducible exact ih1 _ _ _ _ _)
   | (with_reducible exact LeO.refl _)
   | (with_reducible exact LeO.none _)
   | (with_reducible refine LeO.ite ?_ ?_)
   | (with_reducible refine LeO.bind ?_ (fun _ => ?_))
   | exact ih0 _ _ _ _
   | exact ih1 _ _ _ _ _
   | exact LeO.none _
   | refine LeO.ite ?_ ?_
   | refine LeO.bind ?_ (fun _ => ?_)
set_option maxHeartbeats 8000000 in
set_option maxRecDepth 100000 in
theorem walkmilllaw04_once.calls (k : Nat) (A0 : Option Addr) (c0 : Nat) (l0 : List Int) (a1 : Int) (r : Bool) (w : World) (hr0 : Kd.C (Kd.int .i64) w A0 l0.length l0) (hc0 : l0.length ≤ c0) (h : walkmilllaw04_once.f k l0 a1 = some r) :
  Calls Tryz.prog 50 #[.slice A0 l0.length c0, .int .i64 a1] w fun e w' => e = .returned (.bool r) ∧ Below w.heap.size w w' := by
 have HR0 := Aside0.mk hr0
 have HC0 := Aside0.mk hc0
 clear hr0 hc0
 have HB := Aside0.mk (Below.refl w.heap.size w)
 have H : (if 0 ≤ a1 then (if (a1 : Int).toNat ≤ 281474976710656 then (walkmilllaw04_once.l0 k l0 a1 (List.replicate (a1 : Int).toNat false) 0) else (none)) else (none)) = some r := h
 clear h
 by_cases c3 : 0 ≤ a1
 ·rw [if_pos c3] at H
  have c3b0 := eq_true c3
  have c3b1 : decide (0 ≤ a1) = true := decide_eq_true c3
  clear c3
  by_cases c4 : (a1 : Int).toNat ≤ 281474976710656
  ·rw [if_pos c4] at H
   have c4b0 := eq_true c4
   have c4b1 : decide ((a1 : Int).toNat ≤ 281474976710656) = true := decide_eq_true c4
   clear c4
   obtain ⟨y101, hy101⟩ : ∃ y_ : List Bool, y_ = (List.replicate (a1 : Int).toNat false) := ⟨_, rfl⟩
   replace H : (walkmilllaw04_once.l0 k l0 a1 y101 0) = some r := yy hy101 H
   have Ny101 := Aside0.mk hy101
   clear hy101
   have H' := Aside0.mk H
   clear H
   go_enter Tryz.func50, Tryz.ntmps50
   go_wp2_with (first | ((with_reducible refine gate_dst (N := 8) rfl ?_); refine Kd.R_make Kd.bool _ 4 rfl (N := 8) rfl 93 _ _ rfl a1 rfl rfl Tryz.underlying93 (.bool false) 1 info4 rfl (by decide) (by omega) false (ok := fun _ => True) (okp := fun _ => True) rfl (fun _ hk => hk) trivial (dT) (Nat.le_trans (Nat.mul_le_mul_right _ (dT : a1.toNat ≤ 281474976710656)) (by omega)) (Below.refl _ _) (Nat.le_refl _) ?_; intro v102 w5 ho6 hb hg_ hnew_; clear hg_ hnew_; (first | rw [← Ny101.out] at ho6 | (simp only [Int.reduceToNat] at ho6; rw [← Ny101.out] at ho6)); have HO103 := rl ho6 HB; replace HB := bs HB hb; clear hb ho6))
   go_loopg [6] k (fun kq v6 w' => ∃ (x5_1 : List Bool) (x6_1 : Int), v6 = .int .i64 x6_1 ∧ Aside0 (walkmilllaw04_once.l0 kq l0 a1 x5_1 x6_1 = some r) ∧ Aside0 (kq ≤ k) ∧ Aside0 (Kd.R Kd.bool 4 w' w.heap.size (fun _ => True) v102 x5_1) ∧ Aside0 (Below w.heap.size w w'))
   case atStart => exact ⟨(y101), (0), (by first | rfl | (simp; done) | (simp [*]; done)), H', ⟨Nat.le_refl _⟩, ⟨pR HO103.out⟩, ⟨pE HB⟩⟩
   case round =>
    clear H'
    try clear p2
    try clear c3
    try clear c3b0
    try clear c3b1
    try clear c4
    try clear c4b0
    try clear c4b1
    try clear c5
    obtain ⟨x5_1, x6_1, rfl, HA, HK1, HO_5, HB⟩ := hrel
    cases gk with
    | zero => exact absurd HA.out (by simp [walkmilllaw04_once.l0])
    | succ k1 =>
     have H := HA.out
     clear HA
     simp only [walkmilllaw04_once.l0] at H
     by_cases c7 : x6_1 < (l0.length : Int)
     ·rw [if_pos c7] at H
      have c7b0 : decide (x6_1 < (l0.length : Int)) = true := decide_eq_true c7
      clear c7
      have HC8 := Aside0.mk H
      clear H
      go_upto_region 5 with (fail)
      go_cut [36] (fun v36 wc => ∃ (kq : Nat) (x36_7 : Bool), v36 = .bool x36_7 ∧ Aside0 (walkmilllaw04_once.j1 kq l0 a1 x5_1 x6_1 x36_7 = some r) ∧ Aside0 (kq ≤ k1) ∧ Aside0 (Kd.R Kd.bool 4 wc w.heap.size (fun _ => True) v102 x5_1) ∧ Aside0 (Below w.heap.size w wc))
      case first =>
       have H := HC8.out
       clear HC8
       by_cases c9 : 0 ≤ x6_1
       ·rw [if_pos c9] at H
        have c9b0 : decide (0 ≤ x6_1) = true := decide_eq_true c9
        clear c9
        (first | rw [c9b0] | (simp only [i64_w, i32_w]; rw [c9b0]) | skip)
        by_cases c10 : (rd l0 x6_1) < 0
        ·rw [if_pos c10] at H
         have c10b0 : decide ((rd l0 x6_1) < 0) = true := decide_eq_true c10
         clear c10
         have H' := Aside0.mk H
         clear H
         have p104 : 0 ≤ (x6_1 : Int) := dT
         have q104 : x6_1 < (l0.length : Int) := dT
         obtain ⟨ad104, e104, hx104_0⟩ := Kd.at_int HR0.out x6_1 p104 q104
         cases e104
         replace hx104_0 := cut_ HB hx104_0
         replace p104 := eq_true p104
         replace q104 := eq_true q104
         go_wp2
         go_meet
         case rel => exact ⟨_, (true), (by first | rfl | (simp; done) | (simp [*]; done)), H', ⟨by have := HK1.out; first | omega | exact Nat.le_refl _⟩, ⟨pR HO_5.out⟩, ⟨pE HB⟩⟩
        ·rw [if_neg c10] at H
         have c10b0 : decide ((rd l0 x6_1) < 0) = false := decide_eq_false c10
         clear c10
         by_cases c11 : (rd l0 x6_1) ≥ a1
         ·rw [if_pos c11] at H
          have c11b0 : decide (a1 ≤ (rd l0 x6_1)) = true := decide_eq_true c11
          clear c11
          have H' := Aside0.mk H
          clear H
          have p104 : 0 ≤ (x6_1 : Int) := dT
          have q104 : x6_1 < (l0.length : Int) := dT
          obtain ⟨ad104, e104, hx104_0⟩ := Kd.at_int HR0.out x6_1 p104 q104
          cases e104
          replace hx104_0 := cut_ HB hx104_0
          replace p104 := eq_true p104
          replace q104 := eq_true q104
          have p105 : 0 ≤ (x6_1 : Int) := dT
          have q105 : x6_1 < (l0.length : Int) := dT
          obtain ⟨ad105, e105, hx105_0⟩ := Kd.at_int HR0.out x6_1 p105 q105
          obtain rfl : ad104 = ad105 := (by injection e105)
          replace hx105_0 := cut_ HB hx105_0
          replace p105 := eq_true p105
          replace q105 := eq_true q105
          go_wp2
          go_meet
          case rel => exact ⟨_, (true), (by first | rfl | (simp; done) | (simp [*]; done)), H', ⟨by have := HK1.out; first | omega | exact Nat.le_refl _⟩, ⟨pR HO_5.out⟩, ⟨pE HB⟩⟩
         ·rw [if_neg c11] at H
          have c11b0 : decide (a1 ≤ (rd l0 x6_1)) = false := decide_eq_false c11
          clear c11
          by_cases c12 : 0 ≤ (rd l0 x6_1)
          ·rw [if_pos c12] at H
           have c12b0 : decide (0 ≤ (rd l0 x6_1)) = true := decide_eq_true c12
           clear c12
           by_cases c13 : (rd l0 x6_1) < (x5_1.length : Int)
           ·rw [if_pos c13] at H
            have c13b0 : decide ((rd l0 x6_1) < (x5_1.length : Int)) = true := decide_eq_true c13
            clear c13
            have H' := Aside0.mk H
            clear H
            have p104 : 0 ≤ (x6_1 : Int) := dT
            have q104 : x6_1 < (l0.length : Int) := dT
            obtain ⟨ad104, e104, hx104_0⟩ := Kd.at_int HR0.out x6_1 p104 q104
            cases e104
            replace hx104_0 := cut_ HB hx104_0
            replace p104 := eq_true p104
            replace q104 := eq_true q104
            have p105 : 0 ≤ (x6_1 : Int) := dT
            have q105 : x6_1 < (l0.length : Int) := dT
            obtain ⟨ad105, e105, hx105_0⟩ := Kd.at_int HR0.out x6_1 p105 q105
            obtain rfl : ad104 = ad105 := (by injection e105)
            replace hx105_0 := cut_ HB hx105_0
            replace p105 := eq_true p105
            replace q105 := eq_true q105
            have p106 : 0 ≤ (x6_1 : Int) := dT
            have q106 : x6_1 < (l0.length : Int) := dT
            obtain ⟨ad106, e106, hx106_0⟩ := Kd.at_int HR0.out x6_1 p106 q106
            obtain rfl : ad104 = ad106 := (by injection e106)
            replace hx106_0 := cut_ HB hx106_0
            replace p106 := eq_true p106
            replace q106 := eq_true q106
            obtain ⟨Ao14, co14, eo14⟩ := Kd.R_slice HO_5.out
            subst eo14
            have p107 : 0 ≤ ((rd l0 x6_1) : Int) := dT
            have q107 : (rd l0 x6_1) < (x5_1.length : Int) := dT
            obtain ⟨ad107, e107, hx107_0⟩ := Kd.at_bool (Kd.R_reads' HO_5.out).2.2 (rd l0 x6_1) p107 q107
            cases e107
            replace p107 := eq_true p107
            replace q107 := eq_true q107
            go_wp2
            go_meet
            case rel => exact ⟨_, (rdOf false x5_1 (rd l0 x6_1)), (by first | rfl | (simp; done) | (simp [*]; done)), H', ⟨by have := HK1.out; first | omega | exact Nat.le_refl _⟩, ⟨pR HO_5.out⟩, ⟨pE HB⟩⟩
           ·rw [if_neg c13] at H
            exact absurd H (by simp)
          ·rw [if_neg c12] at H
           exact absurd H (by simp)
       ·rw [if_neg c9] at H
        exact absurd H (by simp)
      case rest =>
       clear HC8
       try clear c1
       try clear p1
       try clear q1
       try clear hx1
       try clear p2
       try clear c3
       try clear c3b0
       try clear c3b1
       try clear c4
       try clear c4b0
       try clear c4b1
       try clear c5
       try clear c7
       try clear c7b0
       try clear c9
       try clear c9b0
       try clear c10
       try clear c10b0
       try clear p10
       try clear q10
       try clear hx10
       try clear c11
       try clear c11b0
       try clear c12
       try clear c12b0
       try clear c13
       try clear c13b0
       try clear hx104_0
       try clear hx105_0
       try clear hx106_0
       try clear hx107_0
       try clear p104
       try clear p105
       try clear p106
       try clear p107
       try clear p2
       try clear q104
       try clear q105
       try clear q106
       try clear q107
       obtain ⟨kq, x36_7, rfl, HA, HJ7, HO_5, HB⟩ := hcut
       cases kq with
       | zero => exact absurd HA.out (by simp [walkmilllaw04_once.j1])
       | succ kj7 =>
        have H := HA.out
        clear HA
        simp only [walkmilllaw04_once.j1] at H
        by_cases c15 : x36_7 = true
        ·subst c15
         rw [if_pos rfl] at H
         obtain rfl := Option.some.inj H
         go_wp2
         go_ret
         exact ⟨eT, pE HB⟩
        ·replace c15 := Bool.eq_false_iff.mpr c15
         subst c15
         rw [if_neg (show ¬ (false = true) by decide)] at H
         by_cases c16 : 0 ≤ x6_1
         ·rw [if_pos c16] at H
          have c16b0 : decide (0 ≤ x6_1) = true := decide_eq_true c16
          clear c16
          by_cases c17 : x6_1 < (l0.length : Int)
          ·rw [if_pos c17] at H
           have c17b0 : decide (x6_1 < (l0.length : Int)) = true := decide_eq_true c17
           clear c17
           by_cases c18 : 0 ≤ (rd l0 x6_1)
           ·rw [if_pos c18] at H
            have c18b0 : decide (0 ≤ (rd l0 x6_1)) = true := decide_eq_true c18
            clear c18
            by_cases c19 : (rd l0 x6_1) < (x5_1.length : Int)
            ·rw [if_pos c19] at H
             have c19b0 : decide ((rd l0 x6_1) < (x5_1.length : Int)) = true := decide_eq_true c19
             clear c19
             obtain ⟨y109, hy109⟩ : ∃ y_ : List Bool, y_ = (x5_1.set ((rd l0 x6_1) : Int).toNat true) := ⟨_, rfl⟩
             replace H : (walkmilllaw04_once.l0 kj7 l0 a1 y109 (wrap64 (x6_1 + 1))) = some r := yy hy109 H
             have Ny109 := Aside0.mk hy109
             clear hy109
             have H' := Aside0.mk H
             clear H
             have p108 : 0 ≤ (x6_1 : Int) := dT
             have q108 : x6_1 < (l0.length : Int) := dT
             obtain ⟨ad108, e108, hx108_0⟩ := Kd.at_int HR0.out x6_1 p108 q108
             cases e108
             replace hx108_0 := cut_ HB hx108_0
             replace p108 := eq_true p108
             replace q108 := eq_true q108
             have p20 : 0 ≤ ((rd l0 x6_1) : Int) := dT
             have q20 : ((rd l0 x6_1) : Int) < ((x5_1.length : Int) : Int) := dT
             obtain ⟨go20, co20, eo20, gb20, gl20, cl20, HG20⟩ := Kd.R_form HO_5.out (by omega)
             (first | cases eo20 | (injection eo20 with ea_ en_ ec_; (first | subst ea_ | (injection ea_ with ea_; subst ea_)); subst ec_; clear en_))
             have GB20 := Aside0.mk gb20
             have GG20 := Aside0.mk HG20
             clear gb20 gl20 HG20
             obtain ⟨hx20_0, hf20_0⟩ := Kd.R_celln false HO_5.out ((rd l0 x6_1) : Int) p20 q20
             replace p20 := eq_true p20
             replace q20 := eq_true q20
             have HP21 := Kd.R_putg HO_5.out ((rd l0 x6_1) : Int) true
             go_wp2_with (first | ((with_reducible refine gate_store (t := 4) (p := 42) rfl ?_); refine store_event (t := 4) (p := 42) (v := ?vo_w22) (w1 := (wc.setCell ⟨go20, ((rd l0 x6_1) : Int).toNat, none⟩ (.bool true))) ?hg ?ho ?hn ?hr ?_; (case ho => rfl); (case hg => rfl); (case hn => rfl); (case hr => first | (go_simp; done) | (go_simp; rfl)); intro w22 hw; have hg : wc.grownBy w22 (some go20) := (by rw [hw]; exact HP21.2); have hp_ : Kd.R Kd.bool 4 w22 w.heap.size (fun _ => True) (.slice (some ⟨go20, 0, none⟩) x5_1.length co20) y109 := (by rw [hw, Ny109.out]; exact HP21.1); clear HP21; replace HO_5 := Aside0.mk (hp_); replace HB := Aside0.mk ((by rw [hw]; exact below_set (HB.out) GB20.out : Below w.heap.size w w22)); clear hg hw hp_))
             go_roundg kj7
             case measure => have := HK1.out; have := HJ7.out; omega
             case rel => exact ⟨(y109), (wrap64 (x6_1 + 1)), (by first | rfl | (simp; done) | (simp [*]; done)), H', ⟨by have := HK1.out; have := HJ7.out; omega⟩, ⟨pR HO_5.out⟩, ⟨pE HB⟩⟩
            ·rw [if_neg c19] at H
             exact absurd H (by simp)
           ·rw [if_neg c18] at H
            exact absurd H (by simp)
          ·rw [if_neg c17] at H
           exact absurd H (by simp)
         ·rw [if_neg c16] at H
          exact absurd H (by simp)
     ·rw [if_neg c7] at H
      have c7b0 : decide (x6_1 < (l0.length : Int)) = false := decide_eq_false c7
      clear c7
      obtain rfl := Option.some.inj H
      go_wp2
      go_ret
      exact ⟨eT, pE HB⟩
  ·rw [if_neg c4] at H
   exact absurd H (by simp)
 ·rw [if_neg c3] at H
  exact absurd H (by simp)
def walkmilllaw04_by.f (l0 : List Int) (a1 : Int) : Option (Int) := if (l0.length : Int) = 0 then (some 0) else (if 0 ≤ (Int.tmod a1 (l0.length : Int)) then (if (Int.tmod a1 (l0.length : Int)) < (l0.length : Int) then (some (wrap64 (rd l0 (Int.tmod a1 (l0.length : Int))))) else (none)) else (none))
set_option maxHeartbeats 8000000 in
set_option maxRecDepth 100000 in
theorem walkmilllaw04_by.calls (A0 : Option Addr) (c0 : Nat) (l0 : List Int) (a1 : Int) (r : Int) (w : World) (hr0 : Kd.C (Kd.int .u8) w A0 l0.length l0) (hc0 : l0.length ≤ c0) (h : walkmilllaw04_by.f l0 a1 = some r) :
  Calls Tryz.prog 91 #[.slice A0 l0.length c0, .int .i64 a1] w fun e w' => e = .returned (.int .i64 r) ∧ Drawn0 w w' := by
 have HR0 := Aside0.mk hr0
 have HC0 := Aside0.mk hc0
 clear hr0 hc0
 have H : (if (l0.length : Int) = 0 then (some 0) else (if 0 ≤ (Int.tmod a1 (l0.length : Int)) then (if (Int.tmod a1 (l0.length : Int)) < (l0.length : Int) then (some (wrap64 (rd l0 (Int.tmod a1 (l0.length : Int))))) else (none)) else (none))) = some r := h
 clear h
 by_cases c3 : (l0.length : Int) = 0
 ·rw [if_pos c3] at H
  have c3b0 : ((l0.length : Int) == 0) = true := beq_iff_eq.mpr c3
  have c3b1 : ((l0.length : Int) != 0) = false := bne_eq_false_iff_eq.mpr c3
  clear c3
  obtain rfl := Option.some.inj H
  go_enter Tryz.func91, Tryz.ntmps91
  go_wp2
  go_ret
  exact ⟨by first | rfl | (simp; done) | (simp [*]; done), by repeat (first | exact Drawn0.refl _ | apply Drawn0.step)⟩
 ·rw [if_neg c3] at H
  have c3b0 : ((l0.length : Int) == 0) = false := beq_eq_false_iff_ne.mpr c3
  have c3b1 : ((l0.length : Int) != 0) = true := bne_iff_ne.mpr c3
  have c3b2 : ¬ (l0 = []) := fun h_ => c3 (by rw [h_]; rfl)
  obtain ⟨ji4, hji4⟩ : ∃ j_ : Int, (Int.tmod a1 (l0.length : Int)) = j_ := ⟨_, rfl⟩
  replace H : (if 0 ≤ (ji4) then (if (ji4) < (l0.length : Int) then (some (wrap64 (rd l0 (ji4)))) else (none)) else (none)) = some r := by first | (rw [hji4] at H; exact H) | (simp only [hji4] at H ⊢; exact H)
  by_cases c5 : 0 ≤ (ji4)
  ·rw [if_pos c5] at H
   have c5b0 : decide (0 ≤ (ji4)) = true := decide_eq_true c5
   clear c5
   by_cases c6 : (ji4) < (l0.length : Int)
   ·rw [if_pos c6] at H
    have c6b0 : decide ((ji4) < (l0.length : Int)) = true := decide_eq_true c6
    clear c6
    obtain rfl := Option.some.inj H
    have p101 : 0 ≤ ((ji4) : Int) := dT
    have q101 : (ji4) < (l0.length : Int) := dT
    obtain ⟨ad101, e101, hx101_0⟩ := Kd.at_int HR0.out (ji4) p101 q101
    cases e101
    replace p101 := eq_true p101
    replace q101 := eq_true q101
    go_enter Tryz.func91, Tryz.ntmps91
    go_wp2
    go_ret
    exact ⟨by first | rfl | (simp; done) | (simp only [← hji4] <;> (first | rfl | simp)) | (simp [*]; done), by repeat (first | exact Drawn0.refl _ | apply Drawn0.step)⟩
   ·rw [if_neg c6] at H
    exact absurd H (by simp)
  ·rw [if_neg c5] at H
   exact absurd H (by simp)
def walkmilllaw04_stays.l0 : Nat → List Int → List Int → Int → List (S67) → List Int → Option (List Int)
 | 0, _, _, _, _, _ => none
 | k + 1, x1, x5, x6, x102000, x102001 => if x6 < (x102000.length : Int) then (if 0 ≤ x6 then ((walkmilllaw04_by.f x1 x6).bind fun t107 => (if x5.length < 17592186044416 then (walkmilllaw04_stays.l0 k x1 (x5 ++ [wrap64 (((rd_T67 x102000 x6).f2.f0) + (wrap64 (Int.tdiv (wrap64 (t107 * (wrap64 (((rd_T67 x102000 x6).f2.f1) - ((rd_T67 x102000 x6).f2.f0))))) 255)))]) (wrap64 (x6 + 1)) x102000 x102001) else (none))) else (none)) else (some x5)
def walkmilllaw04_stays.f (k : Nat) (l0_0 : List (S67)) (l0_1 : List Int) (l1 : List Int) : Option (List Int) := walkmilllaw04_stays.l0 k l1 (([] : List Int)) 0 l0_0 l0_1
theorem walkmilllaw04_stays.mono_l : ∀ k, (∀ y0 y1 y2 y3 y4, LeO (walkmilllaw04_stays.l0 k y0 y1 y2 y3 y4) (walkmilllaw04_stays.l0 (k + 1) y0 y1 y2 y3 y4))
 | 0 => fun _ _ _ _ _ r h => by simp [walkmilllaw04_stays.l0] at h
 | k + 1 => by
  have ih0 := walkmilllaw04_stays.mono_l k
  ·intro y0 y1 y2 y3 y4
   unfold walkmilllaw04_stays.l0
   repeat' first
   | (with_reducible exact ih0 _ _ _ _ _)
   | (with_reducible exact LeO.refl _)
   | (with_reducible exact LeO.none _)
   | (with_reducible refine LeO.ite ?_ ?_)
   | (with_reducible refine LeO.bind ?_ (fun _ => ?_))
   | exact ih0 _ _ _ _ _
   | exact LeO.none _
   | refine LeO.ite ?_ ?_
   | refine LeO.bind ?_ (fun _ => ?_)
theorem walkmilllaw04_stays.mono : ∀ a0 a1 a2 k, LeO (walkmilllaw04_stays.f k a0 a1 a2) (walkmilllaw04_stays.f (k + 1) a0 a1 a2) := by
 intro a0 a1 a2 k
 have ih0 := walkmilllaw04_stays.mono_l k
 unfold walkmilllaw04_stays.f
 repeat' first
   | (with_reducible exact ih0 _ _ _ _ _)
   | (with_reducible exact LeO.refl _)
   | (with_reducible exact LeO.none _)
   | (with_reducible refine LeO.ite ?_ ?_)
   | (with_reducible refine LeO.bind ?_ (fun _ => ?_))
   | exact ih0 _ _ _ _ _
   | exact LeO.none _
   | refine LeO.ite ?_ ?_
   | refine LeO.bind ?_ (fun _ => ?_)
def walkmilllaw04_stays.T6 : Bool × List (List Nat × List Nat) := (true, [([], []), ([], []), ([1], [1]), ([], []), ([], []), ([3, 4], [3, 4]), ([], []), ([6], [6]), ([], []), ([8], [8]), ([7, 9], [7, 9]), ([5, 10], [5, 10]), ([11], [11]), ([2, 12], [2, 12]), ([13], [13]), ([0, 14, 5], [0, 14]), ([15, 15, 0, 1, 2, 3, 4, 5, 6, 7, 8, 9, 10, 11, 12, 13, 14, 15], [0, 15])])
def walkmilllaw04_stays.B6 : List Nat := [0, 0, 2, 0, 0, 24, 0, 64, 0, 256, 960, 2040, 4088, 8190, 16382, 32767, 65535]
theorem walkmilllaw04_stays.tab6 : rtab .any (opsOf Tryz.f51 6) = walkmilllaw04_stays.T6 := by kernel_rfl
theorem walkmilllaw04_stays.bits6 : waitsOk walkmilllaw04_stays.T6.2 walkmilllaw04_stays.B6 = true := by kernel_rfl
set_option maxHeartbeats 8000000 in
set_option maxRecDepth 100000 in
theorem walkmilllaw04_stays.calls (k : Nat) (A0_0 : Option Addr) (c0_0 : Nat) (l0_0 : List (S67)) (A0_1 : Option Addr) (c0_1 : Nat) (l0_1 : List Int) (A1 : Option Addr) (c1 : Nat) (l1 : List Int) (r : List Int) (w : World) (hr0_0 : Kd.C k67 w A0_0 l0_0.length l0_0) (hc0_0 : l0_0.length ≤ c0_0) (hr0_1 : Kd.C (Kd.int .i64) w A0_1 l0_1.length l0_1) (hc0_1 : l0_1.length ≤ c0_1) (hr1 : Kd.C (Kd.int .u8) w A1 l1.length l1) (hc1 : l1.length ≤ c1) (h : walkmilllaw04_stays.f k l0_0 l0_1 l1 = some r) :
  Calls Tryz.prog 51 #[.agg #[.slice A0_0 l0_0.length c0_0, .slice A0_1 l0_1.length c0_1], .slice A1 l1.length c1] w fun e w' => ∃ v0_ : Value, e = .returned (v0_) ∧ Kd.R (Kd.int .i64) 3 w' w.heap.size (fun _ => True) v0_ r ∧ Below w.heap.size w w' := by
 have hu25 := Tryz.underlying25
 have hu42 := Tryz.underlying42
 have HR0_0 := Aside0.mk hr0_0
 have HC0_0 := Aside0.mk hc0_0
 clear hr0_0 hc0_0
 have HR0_1 := Aside0.mk hr0_1
 have HC0_1 := Aside0.mk hc0_1
 clear hr0_1 hc0_1
 have HR1 := Aside0.mk hr1
 have HC1 := Aside0.mk hc1
 clear hr1 hc1
 have HB := Aside0.mk (Below.refl w.heap.size w)
 have H : (walkmilllaw04_stays.l0 k l1 (([] : List Int)) 0 l0_0 l0_1) = some r := h
 clear h
 obtain ⟨y102, hy102⟩ : ∃ y_ : List Int, y_ = (([] : List Int)) := ⟨_, rfl⟩
 replace H : (walkmilllaw04_stays.l0 k l1 y102 0 l0_0 l0_1) = some r := yy hy102 H
 have Ny102 := Aside0.mk hy102
 clear hy102
 have H' := Aside0.mk H
 clear H
 go_enter Tryz.func51, Tryz.ntmps51
 go_wp2_with (first | ((with_reducible refine gate_dst (N := 2) rfl ?_); refine bx 2 #[.slice A0_0 l0_0.length c0_0, .slice A0_1 l0_1.length c0_1] 25 ?_; intro gb101 hg w3 hbox hb; have BK101 := hbox; have GW101 := gs HB hg; have GE101 := gs HB hg; replace HB := bs HB hb; clear hb hbox hg) | ((with_reducible refine gate_dst (N := 8) rfl ?_); refine Kd.R_lit (Kd.int .i64) _ 3 ?hg (N := 8) ?hd (xs := ([] : List Int)) (inner := []) (ok := fun _ => True) (okp := fun _ => True) ?hr ?hp (fun _ hk => hk) trivial (Below.refl _ _) (Nat.le_refl _) (by simp) ?_; (case hd => rfl); (case hg => rfl); (case hr => first | (go_simp; done) | (go_simp; rfl)); (case hp => exact (Reps.none _ _)); intro v103 w4 ho5 hb hg_ hnew_; clear hg_ hnew_; (first | rw [← Ny102.out] at ho5 | (simp only [Int.reduceToNat] at ho5; rw [← Ny102.out] at ho5)); have HO104 := rl ho5 HB; replace BK101 := bb BK101 hb; replace HB := bs HB hb; clear hb ho5))
 go_loopg [5, 6] k (fun kq v5 v6 w' => ∃ (x5_1 : List Int) (x6_1 : Int), v6 = .int .i64 x6_1 ∧ Aside0 (walkmilllaw04_stays.l0 kq l1 x5_1 x6_1 l0_0 l0_1 = some r) ∧ Aside0 (kq ≤ k) ∧ Aside0 (Kd.R (Kd.int .i64) 3 w' w.heap.size (fun _ => True) v5 x5_1) ∧ Aside0 (w'.heap[gb101]? = some (.cells #[(.slice A0_0 l0_0.length c0_0), (.slice A0_1 l0_1.length c0_1)] 25 (0, 0))) ∧ Aside0 (Below w.heap.size w w'))
 case atStart => exact ⟨(y102), (0), (by first | rfl | (simp; done) | (simp [*]; done)), H', ⟨Nat.le_refl _⟩, ⟨pR HO104.out⟩, ⟨pB BK101.out⟩, ⟨pE HB⟩⟩
 case round =>
  clear H'
  try clear c1
  try clear p2
  try clear c5
  obtain ⟨x5_1, x6_1, rfl, HA, HK1, HO_5, BK101, HB⟩ := hrel
  cases gk with
  | zero => exact absurd HA.out (by simp [walkmilllaw04_stays.l0])
  | succ k1 =>
   have H := HA.out
   clear HA
   simp only [walkmilllaw04_stays.l0] at H
   by_cases c6 : x6_1 < (l0_0.length : Int)
   ·rw [if_pos c6] at H
    have c6b0 : decide (x6_1 < (l0_0.length : Int)) = true := decide_eq_true c6
    clear c6
    by_cases c7 : 0 ≤ x6_1
    ·rw [if_pos c7] at H
     have c7b0 : decide (0 ≤ x6_1) = true := decide_eq_true c7
     clear c7
     obtain ⟨t107, A8, H⟩ := bi H
     by_cases c9 : x5_1.length < 17592186044416
     ·rw [if_pos c9] at H
      have LMc9 := Aside0.mk c9
      clear c9
      obtain ⟨y108, hy108⟩ : ∃ y_ : List Int, y_ = (x5_1 ++ [wrap64 (((rd_T67 l0_0 x6_1).f2.f0) + (wrap64 (Int.tdiv (wrap64 (t107 * (wrap64 (((rd_T67 l0_0 x6_1).f2.f1) - ((rd_T67 l0_0 x6_1).f2.f0))))) 255)))]) := ⟨_, rfl⟩
      replace H : (walkmilllaw04_stays.l0 k1 l1 y108 (wrap64 (x6_1 + 1)) l0_0 l0_1) = some r := yy hy108 H
      have Ny108 := Aside0.mk hy108
      clear hy108
      have H' := Aside0.mk H
      clear H
      obtain ⟨_, _, _, _⟩ := cf2 BK101
      have p105 : 0 ≤ (x6_1 : Int) := dT
      have q105 : x6_1 < (l0_0.length : Int) := dT
      obtain ⟨ad105, e105, hx105_0, hx105_1, hx105_2, hx105_3⟩ := at_T67 HR0_0.out x6_1 p105 q105
      cases e105
      replace hx105_0 := cut_ HB hx105_0
      replace hx105_1 := cut_ HB hx105_1
      replace hx105_2 := cut_ HB hx105_2
      replace hx105_3 := cut_ HB hx105_3
      replace p105 := eq_true p105
      replace q105 := eq_true q105
      try go_wp2_with (first | ((with_reducible refine gate_dst (N := 7) rfl ?_); refine bx 7 #[.int .i64 0, .int .i64 0] 42 ?_; intro gb106 hg w11 hbox hb; replace HO_5 := rb HO_5 hb; have BK106 := hbox; have GW106 := gs HB hg; have GE106 := gs HB hg; replace HB := bs HB hb; have NB101_106 := nl BK101 hg; have NB106_101 := nr BK101 hg; replace BK101 := bb BK101 hb; clear hb hbox hg; have hnb12 := NB106_101.out; have hnc12 := NB101_106.out; obtain ⟨_, _, _, _⟩ := cf2 BK106))
      have n0_ : Aside0 (Kd.R (Kd.int .i64) 3 ((w11.setCell ⟨gb106, 0, none⟩ (.int .i64 ((rd_T67 l0_0 x6_1).f2.f0))).setCell ⟨gb106, 1, none⟩ (.int .i64 ((rd_T67 l0_0 x6_1).f2.f1))) w.heap.size (fun _ => True) u5 x5_1) := ⟨by (with_reducible repeat (first | apply Kd.R_alloc | apply Kd.R_drewN | apply Kd.R_drew)); exact Kd.R_mono (Kd.R_far (p := ⟨gb106, 1, none⟩) (Kd.R_far (p := ⟨gb106, 0, none⟩) (Kd.R_types HO_5.out BK106.out (by decide)) (fun _ hk => hk.2) (.int .i64 ((rd_T67 l0_0 x6_1).f2.f0))) (fun _ hk => hk.2) (.int .i64 ((rd_T67 l0_0 x6_1).f2.f1))) (fun _ hk => trivial)⟩
      have n1_ : Aside0 (((w11.setCell ⟨gb106, 0, none⟩ (.int .i64 ((rd_T67 l0_0 x6_1).f2.f0))).setCell ⟨gb106, 1, none⟩ (.int .i64 ((rd_T67 l0_0 x6_1).f2.f1))).heap[gb101]? = some (.cells #[.slice (some ad105) l0_0.length c0_0, .slice A0_1 l0_1.length c0_1] 25 (0, 0))) := ⟨pF BK101⟩
      have n2_ : Aside0 (((w11.setCell ⟨gb106, 0, none⟩ (.int .i64 ((rd_T67 l0_0 x6_1).f2.f0))).setCell ⟨gb106, 1, none⟩ (.int .i64 ((rd_T67 l0_0 x6_1).f2.f1))).heap[gb106]? = some (.cells #[.int .i64 ((rd_T67 l0_0 x6_1).f2.f0), .int .i64 ((rd_T67 l0_0 x6_1).f2.f1)] 42 (0, 0))) := ⟨by refine pB ?_; refine blk_put (cs := #[.int .i64 ((rd_T67 l0_0 x6_1).f2.f0), .int .i64 0]) ?_ 1 _ rfl; refine pB ?_; refine blk_put (cs := #[.int .i64 0, .int .i64 0]) ?_ 0 _ rfl; exact pB BK106.out⟩
      have n3_ : Aside0 (Below w.heap.size w ((w11.setCell ⟨gb106, 0, none⟩ (.int .i64 ((rd_T67 l0_0 x6_1).f2.f0))).setCell ⟨gb106, 1, none⟩ (.int .i64 ((rd_T67 l0_0 x6_1).f2.f1)))) := ⟨pE HB⟩
      (try clear HO_5)
      (try clear BK101)
      (try clear BK106)
      (try clear HB)
      generalize ((w11.setCell ⟨gb106, 0, none⟩ (.int .i64 ((rd_T67 l0_0 x6_1).f2.f0))).setCell ⟨gb106, 1, none⟩ (.int .i64 ((rd_T67 l0_0 x6_1).f2.f1))) = w14 at n0_ n1_ n2_ n3_ ⊢
      have HO_5 := n0_
      have BK101 := n1_
      have BK106 := n2_
      have HB := n3_
      clear n0_ n1_ n2_ n3_
      replace HO_5 := Aside0.mk (Kd.R_drew HO_5.out)
      replace BK101 := Aside0.mk (blk_drew BK101.out)
      replace BK106 := Aside0.mk (blk_drew BK106.out)
      replace HB := Aside0.mk (below_drew1 HB.out)
      refine start_ (n := 17) (S := fun w' => w'.cell? ⟨gb106, 0, none⟩ = some (.int .i64 ((rd_T67 l0_0 x6_1).f2.f0)) ∧ w'.cell? ⟨gb106, 1, none⟩ = some (.int .i64 ((rd_T67 l0_0 x6_1).f2.f1))) (ds := []) #[false, false, false, false, false, false, false, false, false, false, false, false, false, false, false, false, false] (by kernel_rfl) rfl rfl ⟨(blk_cell BK106.out 0).trans rfl, (blk_cell BK106.out 1).trans rfl⟩ (fun hHeld => ?_); refine with_tabW walkmilllaw04_stays.tab6 walkmilllaw04_stays.bits6 (fun HT_ HW_ => ?_)
      generalize w14.drew = w15 at HO_5 BK101 BK106 HB hHeld ⊢
      refine pu 0 22 ?_
      refine pu 1 23 ?_
      refine pu 3 25 ?_
      refine pu 4 26 ?_
      refine pu 6 28 ?_
      refine pu 8 30 ?_
      refine tk 2 24 hHeld ?_
      refine tk 7 29 hHeld ?_
      refine tk 9 31 hHeld ?_
      refine pu 10 32 ?_
      refine on 5 (fun K hK => ?_)
      refine gO Tryz.func91 #[.slice A1 l1.length c1, .int .i64 x6_1] ?_
      with_reducible refine (walkmilllaw04_by.calls _ _ l1 x6_1 t107 _ ?side1 ?side2 A8.out).mono ?_
      (case side1 => exact pC (Kd.C_below HR1.out HB.out))
      (case side2 => exact HC1.out)
      rintro e w' ⟨rfl, ⟨nd, rfl⟩⟩
      refine ⟨_, rfl, ?_⟩
      refine hK.out _ _ ⟨(blk_cell BK106.out 0).trans rfl, (blk_cell BK106.out 1).trans rfl⟩ (fun hHeld => ?_)
      clear hK K
      refine norm_ (a' := ?_) ?_ ?_
      rotate_left
      ·show Act.put _ (some 27) _ = _
       simp only [Act.put, List.setIfInBounds_toArray, List.set_cons_zero, List.set_cons_succ, i64_w, i32_w]
       rfl
      refine pu 11 33 ?_
      refine pu 12 34 ?_
      refine pu 13 35 ?_
      refine on 14 (fun K hK => ?_)
      refine value_ (w1 := ?_) (v := ?_) (by rfl) rfl ?_ ?_
      rotate_left 2
      ·go_simp
       constructor
       ·rfl
       ·rfl
      refine hK.out _ _ ⟨(blk_cell (blk_alloc BK106.out _) 0).trans rfl, (blk_cell (blk_alloc BK106.out _) 1).trans rfl⟩ (fun hHeld => ?_)
      clear hK K
      refine norm_ (a' := ?_) ?_ ?_
      rotate_left
      ·show Act.put _ (some 36) _ = _
       simp only [Act.put, List.setIfInBounds_toArray, List.set_cons_zero, List.set_cons_succ, i64_w, i32_w]
       rfl
      refine on 15 (fun K hK => ?_)
      refine Kd.R_append_step (Kd.int .i64) (w0 := w) w.heap.size (by rfl) (.tmp 22) (.tmp 36) 23 3 (.int .i64 0) 8 rfl Tryz.underlying23 info3 rfl (by decide) (by omega) u5 x5_1 (wrap64 (((rd_T67 l0_0 x6_1).f2.f0) + (wrap64 (Int.tdiv (wrap64 (t107 * (wrap64 (((rd_T67 l0_0 x6_1).f2.f1) - ((rd_T67 l0_0 x6_1).f2.f0))))) 255)))) [.int .i64 (wrap64 (((rd_T67 l0_0 x6_1).f2.f0) + (wrap64 (Int.tdiv (wrap64 (t107 * (wrap64 (((rd_T67 l0_0 x6_1).f2.f1) - ((rd_T67 l0_0 x6_1).f2.f0))))) 255))))] (fun _ => True) (fun _ => False) rfl rfl ?aP (fun _ hk => hk.elim) ?aF ?aO ?aB ?aS ?aL ?_
      (case aP => exact rfl)
      (case aB => exact (pE HB))
      (case aF => exact (fun _ _ => trivial))
      (case aO => exact (pR HO_5.out))
      (case aS => exact (below_size (pE HB)))
      (case aL => have := LMc9.out; omega)
      intro v109 w16 ho hb hg hat
      rw [← Ny108.out] at ho
      replace BK101 := Aside0.mk (blk_grown (g := gb101) (o := .cells #[.slice (some ad105) l0_0.length c0_0, .slice A0_1 l0_1.length c0_1] 25 (0, 0)) (pB BK101.out) hg (Kd.R_ne HO_5.out BK101.out (by decide)))
      replace BK106 := Aside0.mk (blk_grown (g := gb106) (o := .cells #[.int .i64 ((rd_T67 l0_0 x6_1).f2.f0), .int .i64 ((rd_T67 l0_0 x6_1).f2.f1)] 42 (0, 0)) (pB BK106.out) hg (Kd.R_ne HO_5.out BK106.out (by decide)))
      replace HB := Aside0.mk (hb)
      have HO110 := Aside0.mk (ho)
      clear HO_5 ho hb hg hat
      refine hK.out _ _ ⟨(blk_cell BK106.out 0).trans rfl, (blk_cell BK106.out 1).trans rfl⟩ (fun hHeld => ?_)
      clear hK K
      refine norm_ (a' := ?_) ?_ ?_
      rotate_left
      ·show Act.put _ (some 37) _ = _
       simp only [Act.put, List.setIfInBounds_toArray, List.set_cons_zero, List.set_cons_succ, i64_w, i32_w]
       rfl
      refine pu 16 5 ?_
      refine done_ (done_of HT_.out (by kernel_rfl)) ?_
      try go_wp2
      go_roundg k1
      case measure => have := HK1.out; omega
      case rel => exact ⟨(y108), (wrap64 (x6_1 + 1)), (by first | rfl | (simp; done) | (simp [*]; done)), H', ⟨by have := HK1.out; omega⟩, ⟨pR HO110.out⟩, ⟨pB BK101.out⟩, ⟨pE HB⟩⟩
     ·rw [if_neg c9] at H
      exact absurd H (by simp)
    ·rw [if_neg c7] at H
     exact absurd H (by simp)
   ·rw [if_neg c6] at H
    have c6b0 : decide (x6_1 < (l0_0.length : Int)) = false := decide_eq_false c6
    clear c6
    obtain rfl := Option.some.inj H
    obtain ⟨_, _, _, _⟩ := cf2 BK101
    go_wp2
    go_ret
    exact ⟨_, eT, pR HO_5.out, pE HB⟩
mutual
def walkmilllaw04_lived.l0 : Nat → List Int → Int → List Int → List Int → List Int → Int → Int → List (S67) → List Int → Option (List Int)
 | 0, _, _, _, _, _, _, _, _, _ => none
 | k + 1, x1, x2, x3, x9, x10, x11, x12, x102000, x102001 => if x11 < (x1.length : Int) then (walkmilllaw04_lived.j1 k x1 x2 x3 x9 x10 x11 x12 (decide (x12 < 1000)) x102000 x102001) else (walkmilllaw04_lived.j1 k x1 x2 x3 x9 x10 x11 x12 false x102000 x102001)
def walkmilllaw04_lived.j1 : Nat → List Int → Int → List Int → List Int → List Int → Int → Int → Bool → List (S67) → List Int → Option (List Int)
 | 0, _, _, _, _, _, _, _, _, _, _ => none
 | k + 1, x1, x2, x3, x9, x10, x11, x12, x27, x102000, x102001 => if x27 = true then (walkmilllaw04_lived.l1 k x1 x2 x3 x9 x10 x11 x12 0 x102000 x102001) else (some x9)
def walkmilllaw04_lived.l1 : Nat → List Int → Int → List Int → List Int → List Int → Int → Int → Int → List (S67) → List Int → Option (List Int)
 | 0, _, _, _, _, _, _, _, _, _, _ => none
 | k + 1, x1, x2, x3, x9, x10, x11, x12, x13, x102000, x102001 => if x13 < x2 then (if x11 < (x1.length : Int) then (if 0 ≤ x11 then (if 0 ≤ (rd x1 x11) then (if (rd x1 x11) < (x102000.length : Int) then (walkmilllaw04_lived.j3 k x1 x2 x3 x9 x10 x11 x12 x13 (decide (((rd_T67 x102000 (rd x1 x11)).f1) ≤ x12)) x102000 x102001) else (none)) else (none)) else (none)) else (walkmilllaw04_lived.j3 k x1 x2 x3 x9 x10 x11 x12 x13 false x102000 x102001)) else (walkmilllaw04_lived.j3 k x1 x2 x3 x9 x10 x11 x12 x13 false x102000 x102001)
def walkmilllaw04_lived.j3 : Nat → List Int → Int → List Int → List Int → List Int → Int → Int → Int → Bool → List (S67) → List Int → Option (List Int)
 | 0, _, _, _, _, _, _, _, _, _, _, _ => none
 | k + 1, x1, x2, x3, x9, x10, x11, x12, x13, x51, x102000, x102001 => if x51 = true then (if 0 ≤ x13 then (if x13 < (x10.length : Int) then (if (rd x10 x13) ≤ x12 then (if 0 ≤ x11 then (if x11 < (x1.length : Int) then (if 0 ≤ (rd x1 x11) then (if (rd x1 x11) < (x3.length : Int) then (if (rd x1 x11) < (x9.length : Int) then (walkmilllaw04_lived.l1 k x1 x2 x3 (x9.set ((rd x1 x11) : Int).toNat x12) (x10.set (x13 : Int).toNat (wrap64 (x12 + (rd x3 (rd x1 x11))))) (wrap64 (x11 + 1)) x12 (wrap64 (x13 + 1)) x102000 x102001) else (none)) else (none)) else (none)) else (none)) else (none)) else (walkmilllaw04_lived.l1 k x1 x2 x3 x9 x10 x11 x12 (wrap64 (x13 + 1)) x102000 x102001)) else (none)) else (none)) else (walkmilllaw04_lived.l0 k x1 x2 x3 x9 x10 x11 (wrap64 (x12 + 1)) x102000 x102001)
end
def walkmilllaw04_lived.f (k : Nat) (l0_0 : List (S67)) (l0_1 : List Int) (l1 : List Int) (a2 : Int) (l3 : List Int) : Option (List Int) := if 0 ≤ (l0_0.length : Int) then (if ((l0_0.length : Int) : Int).toNat ≤ 35184372088832 then (if 0 ≤ a2 then (if (a2 : Int).toNat ≤ 35184372088832 then (walkmilllaw04_lived.l0 k l1 a2 l3 (List.replicate ((l0_0.length : Int) : Int).toNat 0) (List.replicate (a2 : Int).toNat 0) 0 0 l0_0 l0_1) else (none)) else (none)) else (none)) else (none)
theorem walkmilllaw04_lived.mono_l : ∀ k, (∀ y0 y1 y2 y3 y4 y5 y6 y7 y8, LeO (walkmilllaw04_lived.l0 k y0 y1 y2 y3 y4 y5 y6 y7 y8) (walkmilllaw04_lived.l0 (k + 1) y0 y1 y2 y3 y4 y5 y6 y7 y8)) ∧ (∀ y0 y1 y2 y3 y4 y5 y6 y7 y8 y9, LeO (walkmilllaw04_lived.j1 k y0 y1 y2 y3 y4 y5 y6 y7 y8 y9) (walkmilllaw04_lived.j1 (k + 1) y0 y1 y2 y3 y4 y5 y6 y7 y8 y9)) ∧ (∀ y0 y1 y2 y3 y4 y5 y6 y7 y8 y9, LeO (walkmilllaw04_lived.l1 k y0 y1 y2 y3 y4 y5 y6 y7 y8 y9) (walkmilllaw04_lived.l1 (k + 1) y0 y1 y2 y3 y4 y5 y6 y7 y8 y9)) ∧ (∀ y0 y1 y2 y3 y4 y5 y6 y7 y8 y9 y10, LeO (walkmilllaw04_lived.j3 k y0 y1 y2 y3 y4 y5 y6 y7 y8 y9 y10) (walkmilllaw04_lived.j3 (k + 1) y0 y1 y2 y3 y4 y5 y6 y7 y8 y9 y10))
 | 0 => ⟨fun _ _ _ _ _ _ _ _ _ r h => by simp [walkmilllaw04_lived.l0] at h, fun _ _ _ _ _ _ _ _ _ _ r h => by simp [walkmilllaw04_lived.j1] at h, fun _ _ _ _ _ _ _ _ _ _ r h => by simp [walkmilllaw04_lived.l1] at h, fun _ _ _ _ _ _ _ _ _ _ _ r h => by simp [walkmilllaw04_lived.j3] at h⟩
 | k + 1 => by
  obtain ⟨ih0, ih1, ih2, ih3⟩ := walkmilllaw04_lived.mono_l k
  refine ⟨?_, ?_, ?_, ?_⟩
  ·intro y0 y1 y2 y3 y4 y5 y6 y7 y8
   unfold walkmilllaw04_lived.l0
   repeat' first
   | (with_reducible exact ih0 _ _ _ _ _ _ _ _ _)
   | (with_reducible exact ih1 _ _ _ _ _ _ _ _ _ _)
   | (with_reducible exact ih2 _ _ _ _ _ _ _ _ _ _)
   | (with_reducible exact ih3 _ _ _ _ _ _ _ _ _ _ _)
   | (with_reducible exact LeO.refl _)
   | (with_reducible exact LeO.none _)
   | (with_reducible refine LeO.ite ?_ ?_)
   | (with_reducible refine LeO.bind ?_ (fun _ => ?_))
   | exact ih0 _ _ _ _ _ _ _ _ _
   | exact ih1 _ _ _ _ _ _ _ _ _ _
   | exact ih2 _ _ _ _ _ _ _ _ _ _
   | exact ih3 _ _ _ _ _ _ _ _ _ _ _
   | exact LeO.none _
   | refine LeO.ite ?_ ?_
   | refine LeO.bind ?_ (fun _ => ?_)
  ·intro y0 y1 y2 y3 y4 y5 y6 y7 y8 y9
   unfold walkmilllaw04_lived.j1
   repeat' first
   | (with_reducible exact ih0 _ _ _ _ _ _ _ _ _)
   | (with_reducible exact ih1 _ _ _ _ _ _ _ _ _ _)
   | (with_reducible exact ih2 _ _ _ _ _ _ _ _ _ _)
   | (with_reducible exact ih3 _ _ _ _ _ _ _ _ _ _ _)
   | (with_reducible exact LeO.refl _)
   | (with_reducible exact LeO.none _)
   | (with_reducible refine LeO.ite ?_ ?_)
   | (with_reducible refine LeO.bind ?_ (fun _ => ?_))
   | exact ih0 _ _ _ _ _ _ _ _ _
   | exact ih1 _ _ _ _ _ _ _ _ _ _
   | exact ih2 _ _ _ _ _ _ _ _ _ _
   | exact ih3 _ _ _ _ _ _ _ _ _ _ _
   | exact LeO.none _
   | refine LeO.ite ?_ ?_
   | refine LeO.bind ?_ (fun _ => ?_)
  ·intro y0 y1 y2 y3 y4 y5 y6 y7 y8 y9
   unfold walkmilllaw04_lived.l1
   repeat' first
   | (with_reducible exact ih0 _ _ _ _ _ _ _ _ _)
   | (with_reducible exact ih1 _ _ _ _ _ _ _ _ _ _)
   | (with_reducible exact ih2 _ _ _ _ _ _ _ _ _ _)
   | (with_reducible exact ih3 _ _ _ _ _ _ _ _ _ _ _)
   | (with_reducible exact LeO.refl _)
   | (with_reducible exact LeO.none _)
   | (with_reducible refine LeO.ite ?_ ?_)
   | (with_reducible refine LeO.bind ?_ (fun _ => ?_))
   | exact ih0 _ _ _ _ _ _ _ _ _
   | exact ih1 _ _ _ _ _ _ _ _ _ _
   | exact ih2 _ _ _ _ _ _ _ _ _ _
   | exact ih3 _ _ _ _ _ _ _ _ _ _ _
   | exact LeO.none _
   | refine LeO.ite ?_ ?_
   | refine LeO.bind ?_ (fun _ => ?_)
  ·intro y0 y1 y2 y3 y4 y5 y6 y7 y8 y9 y10
   unfold walkmilllaw04_lived.j3
   repeat' first
   | (with_reducible exact ih0 _ _ _ _ _ _ _ _ _)
   | (with_reducible exact ih1 _ _ _ _ _ _ _ _ _ _)
   | (with_reducible exact ih2 _ _ _ _ _ _ _ _ _ _)
   | (with_reducible exact ih3 _ _ _ _ _ _ _ _ _ _ _)
   | (with_reducible exact LeO.refl _)
   | (with_reducible exact LeO.none _)
   | (with_reducible refine LeO.ite ?_ ?_)
   | (with_reducible refine LeO.bind ?_ (fun _ => ?_))
   | exact ih0 _ _ _ _ _ _ _ _ _
   | exact ih1 _ _ _ _ _ _ _ _ _ _
   | exact ih2 _ _ _ _ _ _ _ _ _ _
   | exact ih3 _ _ _ _ _ _ _ _ _ _ _
   | exact LeO.none _
   | refine LeO.ite ?_ ?_
   | refine LeO.bind ?_ (fun _ => ?_)
theorem walkmilllaw04_lived.mono : ∀ a0 a1 a2 a3 a4 k, LeO (walkmilllaw04_lived.f k a0 a1 a2 a3 a4) (walkmilllaw04_lived.f (k + 1) a0 a1 a2 a3 a4) := by
 intro a0 a1 a2 a3 a4 k
 obtain ⟨ih0, ih1, ih2, ih3⟩ := walkmilllaw04_lived.mono_l k
 unfold walkmilllaw04_lived.f
 repeat' first
   | (with_reducible exact ih0 _ _ _ _ _ _ _ _ _)
   | (with_reducible exact ih1 _ _ _ _ _ _ _ _ _ _)
   | (with_reducible exact ih2 _ _ _ _ _ _ _ _ _ _)
   | (with_reducible exact ih3 _ _ _ _ _ _ _ _ _ _ _)
   | (with_reducible exact LeO.refl _)
   | (with_reducible exact LeO.none _)
   | (with_reducible refine LeO.ite ?_ ?_)
   | (with_reducible refine LeO.bind ?_ (fun _ => ?_))
   | exact ih0 _ _ _ _ _ _ _ _ _
   | exact ih1 _ _ _ _ _ _ _ _ _ _
   | exact ih2 _ _ _ _ _ _ _ _ _ _
   | exact ih3 _ _ _ _ _ _ _ _ _ _ _
   | exact LeO.none _
   | refine LeO.ite ?_ ?_
   | refine LeO.bind ?_ (fun _ => ?_)
def walkmilllaw04_lived.T1 : Bool × List (List Nat × List Nat) := (true, [([], []), ([0], [0]), ([1], [1]), ([2, 2], [2]), ([], []), ([4, 4], [4]), ([3, 0, 1, 2, 3], [3]), ([5, 6, 0, 1, 2, 3, 4, 5, 6], [5]), ([7, 0, 1, 2, 3, 4, 5, 6, 7], [])])
def walkmilllaw04_lived.B1 : List Nat := [0, 1, 3, 7, 0, 16, 15, 127, 255]
theorem walkmilllaw04_lived.tab1 : rtab .any (opsOf Tryz.f52 1) = walkmilllaw04_lived.T1 := by kernel_rfl
theorem walkmilllaw04_lived.bits1 : waitsOk walkmilllaw04_lived.T1.2 walkmilllaw04_lived.B1 = true := by kernel_rfl
def walkmilllaw04_lived.T6 : Bool × List (List Nat × List Nat) := (true, [([], []), ([], []), ([0, 1], [0, 1]), ([2], [2]), ([3], [3]), ([3], [3]), ([5, 3], [3, 5]), ([4, 6, 3], [3, 4, 6]), ([3, 7], [3, 7]), ([8, 3], [8]), ([9], [9]), ([10, 9], [9, 10]), ([9], [9]), ([9], [9]), ([12, 13, 9], [9, 12, 13]), ([14, 9], [9, 14]), ([11, 15, 9], [9, 11, 15]), ([16, 9], [9, 16]), ([17, 9], [9, 17]), ([9], [9]), ([18, 19, 9], [9, 18, 19]), ([9, 20], [9, 20])])
def walkmilllaw04_lived.B6 : List Nat := [0, 0, 3, 7, 15, 15, 47, 127, 255, 511, 1023, 2047, 1023, 1023, 13311, 29695, 65535, 131071, 262143, 1023, 1048575, 2097151]
theorem walkmilllaw04_lived.tab6 : rtab .any (opsOf Tryz.f52 6) = walkmilllaw04_lived.T6 := by kernel_rfl
theorem walkmilllaw04_lived.bits6 : waitsOk walkmilllaw04_lived.T6.2 walkmilllaw04_lived.B6 = true := by kernel_rfl
def walkmilllaw04_lived.T9 : Bool × List (List Nat × List Nat) := (true, [([], []), ([], []), ([], []), ([1, 2], [1, 2]), ([3], [3]), ([], []), ([], []), ([], []), ([], []), ([], []), ([], []), ([], []), ([10, 11], [10, 11]), ([12], [12]), ([9, 13], [9, 13]), ([14], [14]), ([8, 15], [8, 15]), ([0, 4, 0, 1, 2, 3, 4, 7, 13, 15], [0, 4]), ([17, 7, 0, 1, 2, 3, 4, 7, 13, 15], [7, 17]), ([5, 6, 0, 1, 2, 3, 4, 5, 6, 7, 8, 9, 10, 11, 12, 13, 14, 15, 16, 17, 18], [5, 6]), ([19, 16, 18, 0, 1, 2, 3, 4, 5, 6, 7, 8, 9, 10, 11, 12, 13, 14, 15, 16, 17, 18], [16, 19])])
def walkmilllaw04_lived.B9 : List Nat := [0, 0, 0, 6, 14, 0, 0, 0, 0, 0, 0, 0, 3072, 7168, 15872, 32256, 65280, 65183, 196255, 524287, 1048575]
theorem walkmilllaw04_lived.tab9 : rtab .any (opsOf Tryz.f52 9) = walkmilllaw04_lived.T9 := by kernel_rfl
theorem walkmilllaw04_lived.bits9 : waitsOk walkmilllaw04_lived.T9.2 walkmilllaw04_lived.B9 = true := by kernel_rfl
set_option maxHeartbeats 8000000 in
set_option maxRecDepth 100000 in
theorem walkmilllaw04_lived.calls (k : Nat) (A0_0 : Option Addr) (c0_0 : Nat) (l0_0 : List (S67)) (A0_1 : Option Addr) (c0_1 : Nat) (l0_1 : List Int) (A1 : Option Addr) (c1 : Nat) (l1 : List Int) (a2 : Int) (A3 : Option Addr) (c3 : Nat) (l3 : List Int) (r : List Int) (w : World) (hr0_0 : Kd.C k67 w A0_0 l0_0.length l0_0) (hc0_0 : l0_0.length ≤ c0_0) (hr0_1 : Kd.C (Kd.int .i64) w A0_1 l0_1.length l0_1) (hc0_1 : l0_1.length ≤ c0_1) (hr1 : Kd.C (Kd.int .i64) w A1 l1.length l1) (hc1 : l1.length ≤ c1) (hr3 : Kd.C (Kd.int .i64) w A3 l3.length l3) (hc3 : l3.length ≤ c3) (h : walkmilllaw04_lived.f k l0_0 l0_1 l1 a2 l3 = some r) :
  Calls Tryz.prog 52 #[.agg #[.slice A0_0 l0_0.length c0_0, .slice A0_1 l0_1.length c0_1], .slice A1 l1.length c1, .int .i64 a2, .slice A3 l3.length c3] w fun e w' => ∃ v0_ : Value, e = .returned (v0_) ∧ Kd.R (Kd.int .i64) 3 w' w.heap.size (fun _ => True) v0_ r ∧ Below w.heap.size w w' := by
 have hu25 := Tryz.underlying25
 have HR0_0 := Aside0.mk hr0_0
 have HC0_0 := Aside0.mk hc0_0
 clear hr0_0 hc0_0
 have HR0_1 := Aside0.mk hr0_1
 have HC0_1 := Aside0.mk hc0_1
 clear hr0_1 hc0_1
 have HR1 := Aside0.mk hr1
 have HC1 := Aside0.mk hc1
 clear hr1 hc1
 have HR3 := Aside0.mk hr3
 have HC3 := Aside0.mk hc3
 clear hr3 hc3
 have HB := Aside0.mk (Below.refl w.heap.size w)
 have H : (if 0 ≤ (l0_0.length : Int) then (if ((l0_0.length : Int) : Int).toNat ≤ 35184372088832 then (if 0 ≤ a2 then (if (a2 : Int).toNat ≤ 35184372088832 then (walkmilllaw04_lived.l0 k l1 a2 l3 (List.replicate ((l0_0.length : Int) : Int).toNat 0) (List.replicate (a2 : Int).toNat 0) 0 0 l0_0 l0_1) else (none)) else (none)) else (none)) else (none)) = some r := h
 clear h
 by_cases c5 : 0 ≤ (l0_0.length : Int)
 ·rw [if_pos c5] at H
  have c5b0 := eq_true c5
  have c5b1 : decide (0 ≤ (l0_0.length : Int)) = true := decide_eq_true c5
  clear c5
  by_cases c6 : ((l0_0.length : Int) : Int).toNat ≤ 35184372088832
  ·rw [if_pos c6] at H
   have c6b0 := eq_true c6
   have c6b1 : decide (((l0_0.length : Int) : Int).toNat ≤ 35184372088832) = true := decide_eq_true c6
   clear c6
   obtain ⟨y102, hy102⟩ : ∃ y_ : List Int, y_ = (List.replicate ((l0_0.length : Int) : Int).toNat 0) := ⟨_, rfl⟩
   replace H : (if 0 ≤ a2 then (if (a2 : Int).toNat ≤ 35184372088832 then (walkmilllaw04_lived.l0 k l1 a2 l3 y102 (List.replicate (a2 : Int).toNat 0) 0 0 l0_0 l0_1) else (none)) else (none)) = some r := yy hy102 H
   have Ny102 := Aside0.mk hy102
   clear hy102
   by_cases c7 : 0 ≤ a2
   ·rw [if_pos c7] at H
    have c7b0 := eq_true c7
    have c7b1 : decide (0 ≤ a2) = true := decide_eq_true c7
    clear c7
    by_cases c8 : (a2 : Int).toNat ≤ 35184372088832
    ·rw [if_pos c8] at H
     have c8b0 := eq_true c8
     have c8b1 : decide ((a2 : Int).toNat ≤ 35184372088832) = true := decide_eq_true c8
     clear c8
     obtain ⟨y105, hy105⟩ : ∃ y_ : List Int, y_ = (List.replicate (a2 : Int).toNat 0) := ⟨_, rfl⟩
     replace H : (walkmilllaw04_lived.l0 k l1 a2 l3 y102 y105 0 0 l0_0 l0_1) = some r := yy hy105 H
     have Ny105 := Aside0.mk hy105
     clear hy105
     have H' := Aside0.mk H
     clear H
     go_enter Tryz.func52, Tryz.ntmps52
     try go_wp2_with (first | ((with_reducible refine gate_dst (N := 4) rfl ?_); (try (refine gate_guard (by rfl) ?_; dsimp only)); refine bx 4 #[.slice A0_0 l0_0.length c0_0, .slice A0_1 l0_1.length c0_1] 25 ?_; intro gb101 hg w9 hbox hb; have BK101 := hbox; have GW101 := gs HB hg; have GE101 := gs HB hg; replace HB := bs HB hb; clear hb hbox hg))
     replace BK101 := Aside0.mk (blk_drew BK101.out)
     replace HB := Aside0.mk (below_drew1 HB.out)
     refine start_ (n := 9) (S := fun w' => w'.cell? ⟨gb101, 0, none⟩ = some (.slice A0_0 l0_0.length c0_0) ∧ w'.cell? ⟨gb101, 1, none⟩ = some (.slice A0_1 l0_1.length c0_1)) (ds := []) #[false, false, false, false, false, false, false, false, false] (by kernel_rfl) rfl rfl ⟨(blk_cell BK101.out 0).trans rfl, (blk_cell BK101.out 1).trans rfl⟩ (fun hHeld => ?_); refine with_tabW walkmilllaw04_lived.tab1 walkmilllaw04_lived.bits1 (fun HT_ HW_ => ?_)
     generalize w9.drew = w10 at BK101 HB hHeld ⊢
     refine pu 0 14 ?_
     refine pu 4 18 ?_
     refine tk 1 15 hHeld ?_
     refine pu 2 16 ?_
     refine join_ (σ := Value × Value) 2 #[true, true, true, true, true, true, true, false, false] (fun s_ => [(17, s_.1), (19, s_.2), (9, s_.1)]) (fun s_ w' => (w'.cell? ⟨gb101, 0, none⟩ = some (.slice A0_0 l0_0.length c0_0) ∧ w'.cell? ⟨gb101, 1, none⟩ = some (.slice A0_1 l0_1.length c0_1)) ∧ (Kd.R (Kd.int .i64) 3 w' w.heap.size (fun k_ => some k_ ≠ (s_.2 : Value).ownBlock) s_.1 y102) ∧ (Kd.R (Kd.int .i64) 3 w' w.heap.size (fun k_ => some k_ ≠ (s_.1 : Value).ownBlock) s_.2 y105) ∧ (w'.heap[gb101]? = some (.cells #[.slice A0_0 l0_0.length c0_0, .slice A0_1 l0_1.length c0_1] 25 (0, 0))) ∧ (Below w.heap.size w w')) ?_ ?_
     rotate_left
     ·intro hCont
      refine two_ (i := 3) (j := 5) (Ni := some 17) (Nj := some 19) #[true, true, true, true, true, false, false, false, false] #[true, true, true, false, true, true, false, false, false] rfl rfl rfl rfl (two_of HT_.out (by kernel_rfl)) (by decide) (by decide) (fun K hK => ?_) (fun K hK => ?_)
      ·skip
       refine Kd.R_make_step (Kd.int .i64) _ 3 (by rfl) (N := 17) rfl 23 _ _ rfl (l0_0.length : Int) rfl rfl Tryz.underlying23 (.int .i64 0) 8 info3 rfl (by decide) (by omega) 0 (ok := fun _ => True) (okp := fun _ => True) rfl (fun _ hk => hk) trivial (dT) (Nat.le_trans (Nat.mul_le_mul_right _ (dT : (l0_0.length : Int).toNat ≤ 35184372088832)) (by omega)) (Below.refl _ _) (Nat.le_refl _) ?_
       intro v103 w11 ho12 hb hg_ hnew_
       clear hg_ hnew_
       (first | rw [← Ny102.out] at ho12 | (simp only [Int.reduceToNat] at ho12; rw [← Ny102.out] at ho12))
       have HO104 := rl ho12 HB
       replace BK101 := bb BK101 hb
       replace HB := bs HB hb
       clear hb ho12
       refine hK.out _ _ ⟨(blk_cell BK101.out 0).trans rfl, (blk_cell BK101.out 1).trans rfl⟩ (fun hHeld => ?_)
       clear hK K
       refine norm_ (a' := ?_) ?_ ?_
       rotate_left
       ·show Act.put _ (some 17) _ = _
        simp only [Act.put, List.setIfInBounds_toArray, List.set_cons_zero, List.set_cons_succ, i64_w, i32_w]
        rfl
       refine pu 6 9 ?_
       refine on 5 (fun K hK => ?_)
       refine Kd.R_make_step (Kd.int .i64) _ 3 (by rfl) (N := 19) rfl 23 _ _ rfl a2 rfl rfl Tryz.underlying23 (.int .i64 0) 8 info3 rfl (by decide) (by omega) 0 (ok := fun _ => True) (okp := fun _ => True) rfl (fun _ hk => hk) trivial (dT) (Nat.le_trans (Nat.mul_le_mul_right _ (dT : a2.toNat ≤ 35184372088832)) (by omega)) (Below.refl _ _) (Nat.le_refl _) ?_
       intro v106 w13 ho14 hb hg_ hnew_
       clear hg_ hnew_
       (first | rw [← Ny105.out] at ho14 | (simp only [Int.reduceToNat] at ho14; rw [← Ny105.out] at ho14))
       have HO107 := Aside0.mk (Kd.R_lower (Kd.R_new' ho14 (Kd.R_lt (pR HO104.out))) (below_size (pE HB)))
       replace HO104 := re HO104 ho14 hb
       replace BK101 := bb BK101 hb
       replace HB := bs HB hb
       clear hb ho14
       refine hK.out _ _ ⟨(blk_cell BK101.out 0).trans rfl, (blk_cell BK101.out 1).trans rfl⟩ (fun hHeld => ?_)
       clear hK K
       refine norm_ (a' := ?_) ?_ ?_
       rotate_left
       ·show Act.put _ (some 19) _ = _
        simp only [Act.put, List.setIfInBounds_toArray, List.set_cons_zero, List.set_cons_succ, i64_w, i32_w]
        rfl
       exact norm_ (by simp only [putAll, Act.put, List.setIfInBounds_toArray, List.set_cons_zero, List.set_cons_succ]) (hCont (v103, v106) _ ⟨hHeld, (by refine pR ?_; exact Kd.R_mono HO104.out (fun _ hk => hk.2)), (by refine pR ?_; exact Kd.R_mono HO107.out (fun _ hk => hk.2)), (pB BK101.out), (pE HB)⟩)
      ·skip
       refine Kd.R_make_step (Kd.int .i64) _ 3 (by rfl) (N := 19) rfl 23 _ _ rfl a2 rfl rfl Tryz.underlying23 (.int .i64 0) 8 info3 rfl (by decide) (by omega) 0 (ok := fun _ => True) (okp := fun _ => True) rfl (fun _ hk => hk) trivial (dT) (Nat.le_trans (Nat.mul_le_mul_right _ (dT : a2.toNat ≤ 35184372088832)) (by omega)) (Below.refl _ _) (Nat.le_refl _) ?_
       intro v106 w11 ho12 hb hg_ hnew_
       clear hg_ hnew_
       (first | rw [← Ny105.out] at ho12 | (simp only [Int.reduceToNat] at ho12; rw [← Ny105.out] at ho12))
       have HO107 := rl ho12 HB
       replace BK101 := bb BK101 hb
       replace HB := bs HB hb
       clear hb ho12
       refine hK.out _ _ ⟨(blk_cell BK101.out 0).trans rfl, (blk_cell BK101.out 1).trans rfl⟩ (fun hHeld => ?_)
       clear hK K
       refine norm_ (a' := ?_) ?_ ?_
       rotate_left
       ·show Act.put _ (some 19) _ = _
        simp only [Act.put, List.setIfInBounds_toArray, List.set_cons_zero, List.set_cons_succ, i64_w, i32_w]
        rfl
       refine on 3 (fun K hK => ?_)
       refine Kd.R_make_step (Kd.int .i64) _ 3 (by rfl) (N := 17) rfl 23 _ _ rfl (l0_0.length : Int) rfl rfl Tryz.underlying23 (.int .i64 0) 8 info3 rfl (by decide) (by omega) 0 (ok := fun _ => True) (okp := fun _ => True) rfl (fun _ hk => hk) trivial (dT) (Nat.le_trans (Nat.mul_le_mul_right _ (dT : (l0_0.length : Int).toNat ≤ 35184372088832)) (by omega)) (Below.refl _ _) (Nat.le_refl _) ?_
       intro v103 w13 ho14 hb hg_ hnew_
       clear hg_ hnew_
       (first | rw [← Ny102.out] at ho14 | (simp only [Int.reduceToNat] at ho14; rw [← Ny102.out] at ho14))
       have HO104 := Aside0.mk (Kd.R_lower (Kd.R_new' ho14 (Kd.R_lt (pR HO107.out))) (below_size (pE HB)))
       replace HO107 := re HO107 ho14 hb
       replace BK101 := bb BK101 hb
       replace HB := bs HB hb
       clear hb ho14
       refine hK.out _ _ ⟨(blk_cell BK101.out 0).trans rfl, (blk_cell BK101.out 1).trans rfl⟩ (fun hHeld => ?_)
       clear hK K
       refine norm_ (a' := ?_) ?_ ?_
       rotate_left
       ·show Act.put _ (some 17) _ = _
        simp only [Act.put, List.setIfInBounds_toArray, List.set_cons_zero, List.set_cons_succ, i64_w, i32_w]
        rfl
       refine pu 6 9 ?_
       exact norm_ (by simp only [putAll, Act.put, List.setIfInBounds_toArray, List.set_cons_zero, List.set_cons_succ]) (hCont (v103, v106) _ ⟨hHeld, (by refine pR ?_; exact Kd.R_mono HO104.out (fun _ hk => hk.2)), (by refine pR ?_; exact Kd.R_mono HO107.out (fun _ hk => hk.2)), (pB BK101.out), (pE HB)⟩)
     rintro ⟨v103, v106⟩ w15 ⟨hS_, h0_, h1_, h2_, h3_⟩
     have n0_ : Aside0 (Kd.R (Kd.int .i64) 3 w15 w.heap.size (fun k_ => some k_ ≠ (v106 : Value).ownBlock) v103 y102) := ⟨h0_⟩
     have n1_ : Aside0 (Kd.R (Kd.int .i64) 3 w15 w.heap.size (fun k_ => some k_ ≠ (v103 : Value).ownBlock) v106 y105) := ⟨h1_⟩
     have n2_ : Aside0 (w15.heap[gb101]? = some (.cells #[.slice A0_0 l0_0.length c0_0, .slice A0_1 l0_1.length c0_1] 25 (0, 0))) := ⟨h2_⟩
     have n3_ : Aside0 (Below w.heap.size w w15) := ⟨h3_⟩
     clear BK101 HB h0_ h1_ h2_ h3_
     have HO104 := n0_
     have HO107 := n1_
     have BK101 := n2_
     have HB := n3_
     clear n0_ n1_ n2_ n3_
     have hHeld : w15.cell? ⟨gb101, 0, none⟩ = some (.slice A0_0 l0_0.length c0_0) ∧ w15.cell? ⟨gb101, 1, none⟩ = some (.slice A0_1 l0_1.length c0_1) := hS_
     refine norm_ (a' := ?_) ?_ ?_
     rotate_left
     ·simp only [putAll, Act.put, List.setIfInBounds_toArray, List.set_cons_zero, List.set_cons_succ]
      rfl
     refine pu 7 10 ?_
     refine pu 8 11 ?_
     refine done_ (done_of HT_.out (by kernel_rfl)) ?_
     try go_wp2
     go_loopg [11, 12] k (fun kq v11 v12 w' => ∃ (x9_1 : List Int) (x10_1 : List Int) (x11_1 : Int) (x12_1 : Int), v11 = .int .i64 x11_1 ∧ v12 = .int .i64 x12_1 ∧ Aside0 (walkmilllaw04_lived.l0 kq l1 a2 l3 x9_1 x10_1 x11_1 x12_1 l0_0 l0_1 = some r) ∧ Aside0 (kq ≤ k) ∧ Aside0 (Kd.R (Kd.int .i64) 3 w' w.heap.size (fun k_ => some k_ ≠ (v106 : Value).ownBlock) v103 x9_1) ∧ Aside0 (Kd.R (Kd.int .i64) 3 w' w.heap.size (fun k_ => some k_ ≠ (v103 : Value).ownBlock) v106 x10_1) ∧ Aside0 (w'.heap[gb101]? = some (.cells #[(.slice A0_0 l0_0.length c0_0), (.slice A0_1 l0_1.length c0_1)] 25 (0, 0))) ∧ Aside0 (Below w.heap.size w w'))
     case atStart => exact ⟨(y102), (y105), (0), (0), (by first | rfl | (simp; done) | (simp [*]; done)), (by first | rfl | (simp; done) | (simp [*]; done)), H', ⟨Nat.le_refl _⟩, ⟨pR HO104.out⟩, ⟨pR HO107.out⟩, ⟨pB BK101.out⟩, ⟨pE HB⟩⟩
     case round =>
      clear H'
      try clear c1
      try clear p2
      try clear c3
      try clear c5
      try clear c5b0
      try clear c5b1
      try clear c6
      try clear c6b0
      try clear c6b1
      try clear c7
      try clear c7b0
      try clear c7b1
      try clear c8
      try clear c8b0
      try clear c8b1
      obtain ⟨x9_1, x10_1, x11_1, x12_1, rfl, rfl, HA, HK1, HO_9, HO_10, BK101, HB⟩ := hrel
      cases gk with
      | zero => exact absurd HA.out (by simp [walkmilllaw04_lived.l0])
      | succ k1 =>
       have H := HA.out
       clear HA
       simp only [walkmilllaw04_lived.l0] at H
       have HC16 := Aside0.mk H
       clear H
       go_upto_region 3 with (fail)
       go_cut [27] (fun v27 wc => ∃ (kq : Nat) (x27_15 : Bool), v27 = .bool x27_15 ∧ Aside0 (walkmilllaw04_lived.j1 kq l1 a2 l3 x9_1 x10_1 x11_1 x12_1 x27_15 l0_0 l0_1 = some r) ∧ Aside0 (kq ≤ k1) ∧ Aside0 (Kd.R (Kd.int .i64) 3 wc w.heap.size (fun k_ => some k_ ≠ (v106 : Value).ownBlock) v103 x9_1) ∧ Aside0 (Kd.R (Kd.int .i64) 3 wc w.heap.size (fun k_ => some k_ ≠ (v103 : Value).ownBlock) v106 x10_1) ∧ Aside0 (wc.heap[gb101]? = some (.cells #[(.slice A0_0 l0_0.length c0_0), (.slice A0_1 l0_1.length c0_1)] 25 (0, 0))) ∧ Aside0 (Below w.heap.size w wc))
       case first =>
        have H := HC16.out
        clear HC16
        by_cases c17 : x11_1 < (l1.length : Int)
        ·rw [if_pos c17] at H
         have c17b0 : decide (x11_1 < (l1.length : Int)) = true := decide_eq_true c17
         clear c17
         (first | rw [c17b0] | (simp only [i64_w, i32_w]; rw [c17b0]) | skip)
         have H' := Aside0.mk H
         clear H
         go_wp2
         go_meet
         case rel => exact ⟨_, (decide (x12_1 < 1000)), (by first | rfl | (simp; done) | (simp [*]; done)), H', ⟨by have := HK1.out; first | omega | exact Nat.le_refl _⟩, ⟨pR HO_9.out⟩, ⟨pR HO_10.out⟩, ⟨pB BK101.out⟩, ⟨pE HB⟩⟩
        ·rw [if_neg c17] at H
         have c17b0 : decide (x11_1 < (l1.length : Int)) = false := decide_eq_false c17
         clear c17
         (first | rw [c17b0] | (simp only [i64_w, i32_w]; rw [c17b0]) | skip)
         have H' := Aside0.mk H
         clear H
         go_wp2
         go_meet
         case rel => exact ⟨_, (false), (by first | rfl | (simp; done) | (simp [*]; done)), H', ⟨by have := HK1.out; first | omega | exact Nat.le_refl _⟩, ⟨pR HO_9.out⟩, ⟨pR HO_10.out⟩, ⟨pB BK101.out⟩, ⟨pE HB⟩⟩
       case rest =>
        clear HC16
        try clear c1
        try clear p2
        try clear c3
        try clear c5
        try clear c5b0
        try clear c5b1
        try clear c6
        try clear c6b0
        try clear c6b1
        try clear c7
        try clear c7b0
        try clear c7b1
        try clear c8
        try clear c8b0
        try clear c8b1
        try clear c17
        try clear c17b0
        try clear p2
        obtain ⟨kq, x27_15, rfl, HA, HJ15, HO_9, HO_10, BK101, HB⟩ := hcut
        cases kq with
        | zero => exact absurd HA.out (by simp [walkmilllaw04_lived.j1])
        | succ kj15 =>
         have H := HA.out
         clear HA
         simp only [walkmilllaw04_lived.j1] at H
         by_cases c18 : x27_15 = true
         ·subst c18
          rw [if_pos rfl] at H
          have H' := Aside0.mk H
          clear H
          go_wp2
          go_loopg [11, 13] kj15 (fun kq v11 v13 w' => ∃ (x9_3 : List Int) (x10_3 : List Int) (x11_3 : Int) (x13_3 : Int), v11 = .int .i64 x11_3 ∧ v13 = .int .i64 x13_3 ∧ Aside0 (walkmilllaw04_lived.l1 kq l1 a2 l3 x9_3 x10_3 x11_3 x12_1 x13_3 l0_0 l0_1 = some r) ∧ Aside0 (kq ≤ kj15) ∧ Aside0 (Kd.R (Kd.int .i64) 3 w' w.heap.size (fun k_ => some k_ ≠ (v106 : Value).ownBlock) v103 x9_3) ∧ Aside0 (Kd.R (Kd.int .i64) 3 w' w.heap.size (fun k_ => some k_ ≠ (v103 : Value).ownBlock) v106 x10_3) ∧ Aside0 (w'.heap[gb101]? = some (.cells #[(.slice A0_0 l0_0.length c0_0), (.slice A0_1 l0_1.length c0_1)] 25 (0, 0))) ∧ Aside0 (Below w.heap.size w w'))
          case atStart => exact ⟨(x9_1), (x10_1), (x11_1), (0), (by first | rfl | (simp; done) | (simp [*]; done)), (by first | rfl | (simp; done) | (simp [*]; done)), H', ⟨Nat.le_refl _⟩, ⟨pR HO_9.out⟩, ⟨pR HO_10.out⟩, ⟨pB BK101.out⟩, ⟨pE HB⟩⟩
          case round =>
           clear H'
           try clear c1
           try clear p2
           try clear c3
           try clear c5
           try clear c5b0
           try clear c5b1
           try clear c6
           try clear c6b0
           try clear c6b1
           try clear c7
           try clear c7b0
           try clear c7b1
           try clear c8
           try clear c8b0
           try clear c8b1
           try clear c17
           try clear c17b0
           try clear c18
           try clear p2
           obtain ⟨x9_3, x10_3, x11_3, x13_3, rfl, rfl, HA, HK3, HO_9, HO_10, BK101, HB⟩ := hrel
           cases gk with
           | zero => exact absurd HA.out (by simp [walkmilllaw04_lived.l1])
           | succ k3 =>
            have H := HA.out
            clear HA
            simp only [walkmilllaw04_lived.l1] at H
            have HC19 := Aside0.mk H
            clear H
            go_upto_region 6 with (fail)
            go_cut [51] (fun v51 wc => ∃ (kq : Nat) (x51_18 : Bool), v51 = .bool x51_18 ∧ Aside0 (walkmilllaw04_lived.j3 kq l1 a2 l3 x9_3 x10_3 x11_3 x12_1 x13_3 x51_18 l0_0 l0_1 = some r) ∧ Aside0 (kq ≤ k3) ∧ Aside0 (Kd.R (Kd.int .i64) 3 wc w.heap.size (fun k_ => some k_ ≠ (v106 : Value).ownBlock) v103 x9_3) ∧ Aside0 (Kd.R (Kd.int .i64) 3 wc w.heap.size (fun k_ => some k_ ≠ (v103 : Value).ownBlock) v106 x10_3) ∧ Aside0 (wc.heap[gb101]? = some (.cells #[(.slice A0_0 l0_0.length c0_0), (.slice A0_1 l0_1.length c0_1)] 25 (0, 0))) ∧ Aside0 (Below w.heap.size w wc))
            case first =>
             have H := HC19.out
             clear HC19
             by_cases c20 : x13_3 < a2
             ·rw [if_pos c20] at H
              have c20b0 : decide (x13_3 < a2) = true := decide_eq_true c20
              clear c20
              (first | rw [c20b0] | (simp only [i64_w, i32_w]; rw [c20b0]) | skip)
              by_cases c21 : x11_3 < (l1.length : Int)
              ·rw [if_pos c21] at H
               have c21b0 : decide (x11_3 < (l1.length : Int)) = true := decide_eq_true c21
               clear c21
               by_cases c22 : 0 ≤ x11_3
               ·rw [if_pos c22] at H
                have c22b0 : decide (0 ≤ x11_3) = true := decide_eq_true c22
                clear c22
                by_cases c23 : 0 ≤ (rd l1 x11_3)
                ·rw [if_pos c23] at H
                 have c23b0 : decide (0 ≤ (rd l1 x11_3)) = true := decide_eq_true c23
                 clear c23
                 by_cases c24 : (rd l1 x11_3) < (l0_0.length : Int)
                 ·rw [if_pos c24] at H
                  have c24b0 : decide ((rd l1 x11_3) < (l0_0.length : Int)) = true := decide_eq_true c24
                  clear c24
                  have H' := Aside0.mk H
                  clear H
                  try go_wp2
                  replace HO_9 := Aside0.mk (Kd.R_drew HO_9.out)
                  replace HO_10 := Aside0.mk (Kd.R_drew HO_10.out)
                  replace BK101 := Aside0.mk (blk_drew BK101.out)
                  replace HB := Aside0.mk (below_drew1 HB.out)
                  have p108 : 0 ≤ (x11_3 : Int) := dT
                  have q108 : x11_3 < (l1.length : Int) := dT
                  obtain ⟨ad108, e108, hx108_0⟩ := Kd.at_int HR1.out x11_3 p108 q108
                  have hw108_0 := hx108_0
                  cases e108
                  replace hx108_0 := cut_ HB hx108_0
                  replace p108 := eq_true p108
                  replace q108 := eq_true q108
                  have p109 : 0 ≤ ((rd l1 x11_3) : Int) := dT
                  have q109 : (rd l1 x11_3) < (l0_0.length : Int) := dT
                  obtain ⟨ad109, e109, hx109_0, hx109_1, hx109_2, hx109_3⟩ := at_T67 HR0_0.out (rd l1 x11_3) p109 q109
                  have hw109_3 := hx109_3
                  have hw109_2 := hx109_2
                  have hw109_1 := hx109_1
                  have hw109_0 := hx109_0
                  cases e109
                  replace hx109_0 := cut_ HB hx109_0
                  replace hx109_1 := cut_ HB hx109_1
                  replace hx109_2 := cut_ HB hx109_2
                  replace hx109_3 := cut_ HB hx109_3
                  replace p109 := eq_true p109
                  replace q109 := eq_true q109
                  refine start_ (n := 22) (S := fun w' => w'.cell? ⟨gb101, 0, none⟩ = some (.slice (some ad109) l0_0.length c0_0) ∧ w'.cell? ⟨gb101, 1, none⟩ = some (.slice A0_1 l0_1.length c0_1) ∧ w'.cell? (ad108.add (x11_3).toNat) = some (.int .i64 (rd l1 x11_3)) ∧ w'.cell? (ad109.add (((rd l1 x11_3)).toNat * 4)) = some (.int .i64 ((rd_T67 l0_0 (rd l1 x11_3)).f0)) ∧ w'.cell? ⟨(ad109.add (((rd l1 x11_3)).toNat * 4)).block, (ad109.add (((rd l1 x11_3)).toNat * 4)).off + 1, none⟩ = some (.int .i64 ((rd_T67 l0_0 (rd l1 x11_3)).f1)) ∧ w'.cell? ⟨(ad109.add (((rd l1 x11_3)).toNat * 4)).block, (ad109.add (((rd l1 x11_3)).toNat * 4)).off + 2, none⟩ = some (.int .i64 ((rd_T67 l0_0 (rd l1 x11_3)).f2.f0)) ∧ w'.cell? ⟨(ad109.add (((rd l1 x11_3)).toNat * 4)).block, (ad109.add (((rd l1 x11_3)).toNat * 4)).off + 3, none⟩ = some (.int .i64 ((rd_T67 l0_0 (rd l1 x11_3)).f2.f1))) (ds := []) #[false, false, false, false, false, false, false, false, false, false, false, false, false, false, false, false, false, false, false, false, false, false] (by kernel_rfl) rfl rfl ⟨(blk_cell BK101.out 0).trans rfl, (blk_cell BK101.out 1).trans rfl, (cB HB hw108_0), (cB HB hw109_0), (cB HB hw109_1), (cB HB hw109_2), (cB HB hw109_3)⟩ (fun hHeld => ?_); refine with_tabW walkmilllaw04_lived.tab6 walkmilllaw04_lived.bits6 (fun HT_ HW_ => ?_)
                  generalize wr.drew = w25 at HO_9 HO_10 BK101 HB hx108_0 hx109_0 hx109_1 hx109_2 hx109_3 hHeld ⊢
                  refine pu 0 30 ?_
                  refine pu 1 31 ?_
                  refine pu 2 32 ?_
                  refine pu 3 33 ?_
                  refine pu 4 34 ?_
                  refine pu 5 35 ?_
                  refine pu 6 36 ?_
                  refine pu 7 37 ?_
                  refine pu 8 38 ?_
                  refine pu 9 39 ?_
                  refine pu 10 40 ?_
                  refine pu 12 42 ?_
                  refine pu 13 43 ?_
                  refine pu 14 44 ?_
                  refine pu 19 49 ?_
                  refine tk 11 41 hHeld ?_
                  refine tk 15 45 hHeld ?_
                  refine pu 16 46 ?_
                  refine pu 17 47 ?_
                  refine tk 18 48 hHeld ?_
                  refine pu 20 50 ?_
                  refine pu 21 51 ?_
                  refine done_ (done_of HT_.out (by kernel_rfl)) ?_
                  try go_wp2
                  go_meet
                  case rel => exact ⟨_, (decide (((rd_T67 l0_0 (rd l1 x11_3)).f1) ≤ x12_1)), (by first | rfl | (simp; done) | (simp [*]; done)), H', ⟨by have := HK1.out; have := HJ15.out; have := HK3.out; first | omega | exact Nat.le_refl _⟩, ⟨pR HO_9.out⟩, ⟨pR HO_10.out⟩, ⟨pB BK101.out⟩, ⟨pE HB⟩⟩
                 ·rw [if_neg c24] at H
                  exact absurd H (by simp)
                ·rw [if_neg c23] at H
                 exact absurd H (by simp)
               ·rw [if_neg c22] at H
                exact absurd H (by simp)
              ·rw [if_neg c21] at H
               have c21b0 : decide (x11_3 < (l1.length : Int)) = false := decide_eq_false c21
               clear c21
               have H' := Aside0.mk H
               clear H
               try go_wp2
               replace HO_9 := Aside0.mk (Kd.R_drew HO_9.out)
               replace HO_10 := Aside0.mk (Kd.R_drew HO_10.out)
               replace BK101 := Aside0.mk (blk_drew BK101.out)
               replace HB := Aside0.mk (below_drew1 HB.out)
               refine start_ (n := 22) (S := fun w' => True) (ds := []) #[false, false, false, false, false, false, false, false, false, false, false, false, false, false, false, false, false, false, false, false, false, false] (by kernel_rfl) rfl rfl trivial (fun hHeld => ?_); refine with_tabW walkmilllaw04_lived.tab6 walkmilllaw04_lived.bits6 (fun HT_ HW_ => ?_)
               generalize wr.drew = w26 at HO_9 HO_10 BK101 HB hHeld ⊢
               refine pu 0 30 ?_
               refine pu 1 31 ?_
               refine pu 2 32 ?_
               refine pu 3 33 ?_
               refine pu 4 34 ?_
               refine pu 5 35 ?_
               refine pu 6 36 ?_
               refine pu 7 37 ?_
               refine pu 8 38 ?_
               refine pu 9 39 ?_
               refine pd 10 40 ?_
               refine pd 11 41 ?_
               refine pd 12 42 ?_
               refine pd 13 43 ?_
               refine pd 14 44 ?_
               refine pd 15 45 ?_
               refine pd 16 46 ?_
               refine pd 17 47 ?_
               refine pd 18 48 ?_
               refine pd 19 49 ?_
               refine pd 20 50 ?_
               refine pu 21 51 ?_
               refine done_ (done_of HT_.out (by kernel_rfl)) ?_
               try go_wp2
               go_meet
               case rel => exact ⟨_, (false), (by first | rfl | (simp; done) | (simp [*]; done)), H', ⟨by have := HK1.out; have := HJ15.out; have := HK3.out; first | omega | exact Nat.le_refl _⟩, ⟨pR HO_9.out⟩, ⟨pR HO_10.out⟩, ⟨pB BK101.out⟩, ⟨pE HB⟩⟩
             ·rw [if_neg c20] at H
              have c20b0 : decide (x13_3 < a2) = false := decide_eq_false c20
              clear c20
              (first | rw [c20b0] | (simp only [i64_w, i32_w]; rw [c20b0]) | skip)
              have H' := Aside0.mk H
              clear H
              try go_wp2
              replace HO_9 := Aside0.mk (Kd.R_drew HO_9.out)
              replace HO_10 := Aside0.mk (Kd.R_drew HO_10.out)
              replace BK101 := Aside0.mk (blk_drew BK101.out)
              replace HB := Aside0.mk (below_drew1 HB.out)
              refine start_ (n := 22) (S := fun w' => True) (ds := []) #[false, false, false, false, false, false, false, false, false, false, false, false, false, false, false, false, false, false, false, false, false, false] (by kernel_rfl) rfl rfl trivial (fun hHeld => ?_); refine with_tabW walkmilllaw04_lived.tab6 walkmilllaw04_lived.bits6 (fun HT_ HW_ => ?_)
              generalize wr.drew = w27 at HO_9 HO_10 BK101 HB hHeld ⊢
              refine pu 0 30 ?_
              refine pu 1 31 ?_
              refine pu 2 32 ?_
              refine pu 3 33 ?_
              refine pd 4 34 ?_
              refine pd 5 35 ?_
              refine pd 6 36 ?_
              refine pd 7 37 ?_
              refine pu 8 38 ?_
              refine pu 9 39 ?_
              refine pd 10 40 ?_
              refine pd 11 41 ?_
              refine pd 12 42 ?_
              refine pd 13 43 ?_
              refine pd 14 44 ?_
              refine pd 15 45 ?_
              refine pd 16 46 ?_
              refine pd 17 47 ?_
              refine pd 18 48 ?_
              refine pd 19 49 ?_
              refine pd 20 50 ?_
              refine pu 21 51 ?_
              refine done_ (done_of HT_.out (by kernel_rfl)) ?_
              try go_wp2
              go_meet
              case rel => exact ⟨_, (false), (by first | rfl | (simp; done) | (simp [*]; done)), H', ⟨by have := HK1.out; have := HJ15.out; have := HK3.out; first | omega | exact Nat.le_refl _⟩, ⟨pR HO_9.out⟩, ⟨pR HO_10.out⟩, ⟨pB BK101.out⟩, ⟨pE HB⟩⟩
            case rest =>
             clear HC19
             try clear c1
             try clear p1
             try clear q1
             try clear hx1
             try clear c2
             try clear p2
             try clear c3
             try clear c5
             try clear c5b0
             try clear c5b1
             try clear c6
             try clear c6b0
             try clear c6b1
             try clear c7
             try clear c7b0
             try clear c7b1
             try clear c8
             try clear c8b0
             try clear c8b1
             try clear p10
             try clear q10
             try clear hx10
             try clear c17
             try clear c17b0
             try clear c18
             try clear c20
             try clear c20b0
             try clear c21
             try clear c21b0
             try clear c22
             try clear c22b0
             try clear c23
             try clear c23b0
             try clear c24
             try clear c24b0
             try clear hx108_0
             try clear hx109_0
             try clear hx109_1
             try clear hx109_2
             try clear hx109_3
             try clear p108
             try clear p109
             try clear p2
             try clear q108
             try clear q109
             obtain ⟨kq, x51_18, rfl, HA, HJ18, HO_9, HO_10, BK101, HB⟩ := hcut
             cases kq with
             | zero => exact absurd HA.out (by simp [walkmilllaw04_lived.j3])
             | succ kj18 =>
              have H := HA.out
              clear HA
              simp only [walkmilllaw04_lived.j3] at H
              by_cases c28 : x51_18 = true
              ·subst c28
               rw [if_pos rfl] at H
               by_cases c29 : 0 ≤ x13_3
               ·rw [if_pos c29] at H
                have c29b0 : decide (0 ≤ x13_3) = true := decide_eq_true c29
                clear c29
                by_cases c30 : x13_3 < (x10_3.length : Int)
                ·rw [if_pos c30] at H
                 have c30b0 : decide (x13_3 < (x10_3.length : Int)) = true := decide_eq_true c30
                 clear c30
                 by_cases c31 : (rd x10_3 x13_3) ≤ x12_1
                 ·rw [if_pos c31] at H
                  have c31b0 : decide ((rd x10_3 x13_3) ≤ x12_1) = true := decide_eq_true c31
                  clear c31
                  by_cases c32 : 0 ≤ x11_3
                  ·rw [if_pos c32] at H
                   have c32b0 : decide (0 ≤ x11_3) = true := decide_eq_true c32
                   clear c32
                   by_cases c33 : x11_3 < (l1.length : Int)
                   ·rw [if_pos c33] at H
                    have c33b0 : decide (x11_3 < (l1.length : Int)) = true := decide_eq_true c33
                    clear c33
                    by_cases c34 : 0 ≤ (rd l1 x11_3)
                    ·rw [if_pos c34] at H
                     have c34b0 : decide (0 ≤ (rd l1 x11_3)) = true := decide_eq_true c34
                     clear c34
                     by_cases c35 : (rd l1 x11_3) < (l3.length : Int)
                     ·rw [if_pos c35] at H
                      have c35b0 : decide ((rd l1 x11_3) < (l3.length : Int)) = true := decide_eq_true c35
                      clear c35
                      by_cases c36 : (rd l1 x11_3) < (x9_3.length : Int)
                      ·rw [if_pos c36] at H
                       have c36b0 : decide ((rd l1 x11_3) < (x9_3.length : Int)) = true := decide_eq_true c36
                       clear c36
                       obtain ⟨y114, hy114⟩ : ∃ y_ : List Int, y_ = (x9_3.set ((rd l1 x11_3) : Int).toNat x12_1) := ⟨_, rfl⟩
                       replace H : (walkmilllaw04_lived.l1 kj18 l1 a2 l3 y114 (x10_3.set (x13_3 : Int).toNat (wrap64 (x12_1 + (rd l3 (rd l1 x11_3))))) (wrap64 (x11_3 + 1)) x12_1 (wrap64 (x13_3 + 1)) l0_0 l0_1) = some r := yy hy114 H
                       have Ny114 := Aside0.mk hy114
                       clear hy114
                       obtain ⟨y115, hy115⟩ : ∃ y_ : List Int, y_ = (x10_3.set (x13_3 : Int).toNat (wrap64 (x12_1 + (rd l3 (rd l1 x11_3))))) := ⟨_, rfl⟩
                       replace H : (walkmilllaw04_lived.l1 kj18 l1 a2 l3 y114 y115 (wrap64 (x11_3 + 1)) x12_1 (wrap64 (x13_3 + 1)) l0_0 l0_1) = some r := yy hy115 H
                       have Ny115 := Aside0.mk hy115
                       clear hy115
                       have H' := Aside0.mk H
                       clear H
                       obtain ⟨Ao39, co39, eo39⟩ := Kd.R_slice HO_10.out
                       subst eo39
                       have p110 : 0 ≤ (x13_3 : Int) := dT
                       have q110 : x13_3 < (x10_3.length : Int) := dT
                       obtain ⟨ad110, e110, hx110_0⟩ := Kd.at_int (Kd.R_reads' HO_10.out).2.2 x13_3 p110 q110
                       cases e110
                       replace p110 := eq_true p110
                       replace q110 := eq_true q110
                       try go_wp2
                       replace HO_9 := Aside0.mk (Kd.R_drew HO_9.out)
                       replace HO_10 := Aside0.mk (Kd.R_drew HO_10.out)
                       replace BK101 := Aside0.mk (blk_drew BK101.out)
                       replace HB := Aside0.mk (below_drew1 HB.out)
                       have p111 : 0 ≤ (x11_3 : Int) := dT
                       have q111 : x11_3 < (l1.length : Int) := dT
                       obtain ⟨ad111, e111, hx111_0⟩ := Kd.at_int HR1.out x11_3 p111 q111
                       have hw111_0 := hx111_0
                       cases e111
                       replace hx111_0 := cut_ HB hx111_0
                       replace p111 := eq_true p111
                       replace q111 := eq_true q111
                       have p112 : 0 ≤ (x11_3 : Int) := dT
                       have q112 : x11_3 < (l1.length : Int) := dT
                       obtain ⟨ad112, e112, hx112_0⟩ := Kd.at_int HR1.out x11_3 p112 q112
                       have hw112_0 := hx112_0
                       obtain rfl : ad111 = ad112 := (by injection e112)
                       replace hx112_0 := cut_ HB hx112_0
                       replace p112 := eq_true p112
                       replace q112 := eq_true q112
                       have p113 : 0 ≤ ((rd l1 x11_3) : Int) := dT
                       have q113 : (rd l1 x11_3) < (l3.length : Int) := dT
                       obtain ⟨ad113, e113, hx113_0⟩ := Kd.at_int HR3.out (rd l1 x11_3) p113 q113
                       have hw113_0 := hx113_0
                       cases e113
                       replace hx113_0 := cut_ HB hx113_0
                       replace p113 := eq_true p113
                       replace q113 := eq_true q113
                       have p37 : 0 ≤ ((rd l1 x11_3) : Int) := dT
                       have q37 : ((rd l1 x11_3) : Int) < ((x9_3.length : Int) : Int) := dT
                       obtain ⟨go37, co37, eo37, gb37, gl37, cl37, HG37⟩ := Kd.R_form HO_9.out (by omega)
                       (first | cases eo37 | (injection eo37 with ea_ en_ ec_; (first | subst ea_ | (injection ea_ with ea_; subst ea_)); subst ec_; clear en_))
                       have GB37 := Aside0.mk gb37
                       have GG37 := Aside0.mk HG37
                       clear gb37 gl37 HG37
                       obtain ⟨hx37_0, hf37_0⟩ := Kd.R_celln 0 HO_9.out ((rd l1 x11_3) : Int) p37 q37
                       replace p37 := eq_true p37
                       replace q37 := eq_true q37
                       have HP41 := Kd.R_putn HO_9.out ((rd l1 x11_3) : Int) x12_1
                       rw [← Ny114.out] at HP41
                       have HQ41 := Aside0.mk HP41
                       clear HP41
                       have p38 : 0 ≤ (x13_3 : Int) := dT
                       have q38 : (x13_3 : Int) < ((x10_3.length : Int) : Int) := dT
                       obtain ⟨go38, co38, eo38, gb38, gl38, cl38, HG38⟩ := Kd.R_form HO_10.out (by omega)
                       (first | cases eo38 | (injection eo38 with ea_ en_ ec_; (first | subst ea_ | (injection ea_ with ea_; subst ea_)); subst ec_; clear en_))
                       have GB38 := Aside0.mk gb38
                       have GG38 := Aside0.mk HG38
                       clear gb38 gl38 HG38
                       (first | simp only [add_plain] at hx110_0 | skip)
                       obtain ⟨hx38_0, hf38_0⟩ := Kd.R_celln 0 (Kd.R_far (p := ⟨go37, ((rd l1 x11_3) : Int).toNat, none⟩) (Kd.R_mono HO_10.out (fun k_ hk => (⟨hk, fun e_ => hk (by rw [e_]; rfl)⟩ : _ ∧ k_ ≠ go37))) (fun _ hk => hk.2) (.int .i64 x12_1)) (x13_3 : Int) p38 q38
                       replace p38 := eq_true p38
                       replace q38 := eq_true q38
                       have HP42 := Kd.R_putn (Kd.R_far (p := ⟨go37, ((rd l1 x11_3) : Int).toNat, none⟩) (Kd.R_mono HO_10.out (fun k_ hk => (⟨hk, fun e_ => hk (by rw [e_]; rfl)⟩ : _ ∧ k_ ≠ go37))) (fun _ hk => hk.2) (.int .i64 x12_1)) (x13_3 : Int) (wrap64 (x12_1 + (rd l3 (rd l1 x11_3))))
                       rw [← Ny115.out] at HP42
                       have HQ42 := Aside0.mk HP42
                       clear HP42
                       refine start_ (n := 21) (S := fun w' => w'.cell? (ad111.add (x11_3).toNat) = some (.int .i64 (rd l1 x11_3)) ∧ w'.cell? (ad111.add (x11_3).toNat) = some (.int .i64 (rd l1 x11_3)) ∧ w'.cell? (ad113.add ((rd l1 x11_3)).toNat) = some (.int .i64 (rd l3 (rd l1 x11_3)))) (ds := [18, 20]) #[false, false, false, false, false, false, false, false, false, false, false, false, false, false, false, false, false, false, false, false, false] (by kernel_rfl) rfl rfl ⟨(cB HB hw111_0), (cB HB hw112_0), (cB HB hw113_0)⟩ (fun hHeld => ?_); refine with_tabW walkmilllaw04_lived.tab9 walkmilllaw04_lived.bits9 (fun HT_ HW_ => ?_)
                       generalize wc.drew = w40 at HO_9 HO_10 BK101 HB GG37 GG38 HQ41 HQ42 hf37_0 hf38_0 hx110_0 hx111_0 hx112_0 hx113_0 hx37_0 hx38_0 hHeld ⊢
                       refine pu 0 60 ?_
                       refine pu 1 61 ?_
                       refine pu 2 62 ?_
                       refine pu 3 63 ?_
                       refine pu 5 65 ?_
                       refine pu 6 66 ?_
                       refine pu 7 67 ?_
                       refine pu 8 68 ?_
                       refine pu 9 69 ?_
                       refine pu 10 70 ?_
                       refine pu 11 71 ?_
                       refine pu 12 72 ?_
                       refine tk 4 64 hHeld ?_
                       refine tk 13 73 hHeld ?_
                       refine pu 14 74 ?_
                       refine tk 15 75 hHeld ?_
                       refine pu 16 76 ?_
                       refine pu 17 77 ?_
                       refine last_ (i := 18) (N := none) #[true, true, true, true, true, true, true, true, true, true, true, true, true, true, true, true, true, true, true, false, false] rfl rfl (one_of HT_.out (by kernel_rfl)) (by decide) (fun K hK => ?_)
                       refine skip_ (w1 := ?_) (by rfl) rfl ?_ ?_
                       rotate_left
                       ·go_simp
                        rfl
                       refine hK.out _ _ ?_
                       clear hK K
                       refine pu 19 78 ?_
                       refine last_ (i := 20) (N := none) #[true, true, true, true, true, true, true, true, true, true, true, true, true, true, true, true, true, true, true, true, true] rfl rfl (one_of HT_.out (by kernel_rfl)) (by decide) (fun K hK => ?_)
                       refine skip_ (w1 := ?_) (by rfl) rfl ?_ ?_
                       rotate_left
                       ·go_simp
                        rfl
                       refine hK.out _ _ ?_
                       clear hK K
                       refine done_ (done_of HT_.out (by kernel_rfl)) ?_
                       try go_wp2
                       go_roundg kj18
                       case measure => have := HK1.out; have := HJ15.out; have := HK3.out; have := HJ18.out; omega
                       case rel => exact ⟨(y114), (y115), (wrap64 (x11_3 + 1)), (wrap64 (x13_3 + 1)), (by first | rfl | (simp; done) | (simp [*]; done)), (by first | rfl | (simp; done) | (simp [*]; done)), H', ⟨by have := HK1.out; have := HJ15.out; have := HK3.out; have := HJ18.out; omega⟩, ⟨by (with_reducible repeat (first | apply Kd.R_alloc | apply Kd.R_drewN | apply Kd.R_drew)); exact Kd.R_mono (Kd.R_far (p := ⟨go38, (x13_3 : Int).toNat, none⟩) (Kd.R_mono HQ41.out (fun k_ hk => (⟨hk, fun e_ => hk (by rw [e_]; rfl)⟩ : _ ∧ k_ ≠ go38))) (fun _ hk => hk.2) (.int .i64 (wrap64 (x12_1 + (rd l3 (rd l1 x11_3)))))) (fun _ hk => hk.1)⟩, ⟨by (with_reducible repeat (first | apply Kd.R_alloc | apply Kd.R_drewN | apply Kd.R_drew)); exact Kd.R_mono HQ42.out (fun _ hk => hk.1)⟩, ⟨by refine pB ?_; refine blk_far ?_ (by have h_ := Kd.R_ne HO_10.out BK101.out (by decide); intro e_; exact h_ (by rw [e_]; rfl)) _; refine pB ?_; refine blk_far ?_ (by have h_ := Kd.R_ne HO_9.out BK101.out (by decide); intro e_; exact h_ (by rw [e_]; rfl)) _; exact pB BK101.out⟩, ⟨pE HB⟩⟩
                      ·rw [if_neg c36] at H
                       exact absurd H (by simp)
                     ·rw [if_neg c35] at H
                      exact absurd H (by simp)
                    ·rw [if_neg c34] at H
                     exact absurd H (by simp)
                   ·rw [if_neg c33] at H
                    exact absurd H (by simp)
                  ·rw [if_neg c32] at H
                   exact absurd H (by simp)
                 ·rw [if_neg c31] at H
                  have c31b0 : decide ((rd x10_3 x13_3) ≤ x12_1) = false := decide_eq_false c31
                  clear c31
                  have H' := Aside0.mk H
                  clear H
                  obtain ⟨Ao43, co43, eo43⟩ := Kd.R_slice HO_10.out
                  subst eo43
                  have p110 : 0 ≤ (x13_3 : Int) := dT
                  have q110 : x13_3 < (x10_3.length : Int) := dT
                  obtain ⟨ad110, e110, hx110_0⟩ := Kd.at_int (Kd.R_reads' HO_10.out).2.2 x13_3 p110 q110
                  cases e110
                  replace p110 := eq_true p110
                  replace q110 := eq_true q110
                  go_wp2
                  go_roundg kj18
                  case measure => have := HK1.out; have := HJ15.out; have := HK3.out; have := HJ18.out; omega
                  case rel => exact ⟨(x9_3), (x10_3), (x11_3), (wrap64 (x13_3 + 1)), (by first | rfl | (simp; done) | (simp [*]; done)), (by first | rfl | (simp; done) | (simp [*]; done)), H', ⟨by have := HK1.out; have := HJ15.out; have := HK3.out; have := HJ18.out; omega⟩, ⟨pR HO_9.out⟩, ⟨pR HO_10.out⟩, ⟨pB BK101.out⟩, ⟨pE HB⟩⟩
                ·rw [if_neg c30] at H
                 exact absurd H (by simp)
               ·rw [if_neg c29] at H
                exact absurd H (by simp)
              ·replace c28 := Bool.eq_false_iff.mpr c28
               subst c28
               rw [if_neg (show ¬ (false = true) by decide)] at H
               have H' := Aside0.mk H
               clear H
               go_wp2
               go_roundg kj18
               case measure => have := HK1.out; have := HJ15.out; have := HK3.out; have := HJ18.out; omega
               case rel => exact ⟨(x9_3), (x10_3), (x11_3), (wrap64 (x12_1 + 1)), (by first | rfl | (simp; done) | (simp [*]; done)), (by first | rfl | (simp; done) | (simp [*]; done)), H', ⟨by have := HK1.out; have := HJ15.out; have := HK3.out; have := HJ18.out; omega⟩, ⟨pR HO_9.out⟩, ⟨pR HO_10.out⟩, ⟨pB BK101.out⟩, ⟨pE HB⟩⟩
         ·replace c18 := Bool.eq_false_iff.mpr c18
          subst c18
          rw [if_neg (show ¬ (false = true) by decide)] at H
          obtain rfl := Option.some.inj H
          go_wp2
          go_ret
          exact ⟨_, eT, by (with_reducible repeat (first | apply Kd.R_alloc | apply Kd.R_drewN | apply Kd.R_drew)); exact Kd.R_mono HO_9.out (fun _ hk => trivial), pE HB⟩
    ·rw [if_neg c8] at H
     exact absurd H (by simp)
   ·rw [if_neg c7] at H
    exact absurd H (by simp)
  ·rw [if_neg c6] at H
   exact absurd H (by simp)
 ·rw [if_neg c5] at H
  exact absurd H (by simp)
def walkmilllaw04_worst.l0 : Nat → List Int → List Int → Int → Int → List (S67) → List Int → Option (Int)
 | 0, _, _, _, _, _, _ => none
 | k + 1, x1, x7, x8, x9, x102000, x102001 => if x9 < (x1.length : Int) then (if 0 ≤ x9 then (if 0 ≤ (rd x1 x9) then (if (rd x1 x9) < (x7.length : Int) then (if (rd x1 x9) < (x102000.length : Int) then (walkmilllaw04_worst.l0 k x1 x7 (mx x8 (wrap64 ((rd x7 (rd x1 x9)) - ((rd_T67 x102000 (rd x1 x9)).f1)))) (wrap64 (x9 + 1)) x102000 x102001) else (none)) else (none)) else (none)) else (none)) else (some x8)
def walkmilllaw04_worst.f (k : Nat) (l0_0 : List (S67)) (l0_1 : List Int) (l1 : List Int) (a2 : Int) : Option (Int) := (walkmilllaw04_stays.f k l0_0 l0_1 (([255] : List Int))).bind fun t105 => ((walkmilllaw04_lived.f k l0_0 l0_1 l1 a2 t105).bind fun t108 => (walkmilllaw04_worst.l0 k l1 t108 0 0 l0_0 l0_1))
theorem walkmilllaw04_worst.mono_l : ∀ k, (∀ y0 y1 y2 y3 y4 y5, LeO (walkmilllaw04_worst.l0 k y0 y1 y2 y3 y4 y5) (walkmilllaw04_worst.l0 (k + 1) y0 y1 y2 y3 y4 y5))
 | 0 => fun _ _ _ _ _ _ r h => by simp [walkmilllaw04_worst.l0] at h
 | k + 1 => by
  have ih0 := walkmilllaw04_worst.mono_l k
  ·intro y0 y1 y2 y3 y4 y5
   unfold walkmilllaw04_worst.l0
   repeat' first
   | (with_reducible exact ih0 _ _ _ _ _ _)
   | (with_reducible exact walkmilllaw04_lived.mono _ _ _ _ _ _)
   | (with_reducible exact walkmilllaw04_stays.mono _ _ _ _)
   | (with_reducible exact LeO.refl _)
   | (with_reducible exact LeO.none _)
   | (with_reducible refine LeO.ite ?_ ?_)
   | (with_reducible refine LeO.bind ?_ (fun _ => ?_))
   | exact ih0 _ _ _ _ _ _
   | exact walkmilllaw04_lived.mono _ _ _ _ _ _
   | exact walkmilllaw04_stays.mono _ _ _ _
   | exact LeO.none _
   | refine LeO.ite ?_ ?_
   | refine LeO.bind ?_ (fun _ => ?_)
theorem walkmilllaw04_worst.mono : ∀ a0 a1 a2 a3 k, LeO (walkmilllaw04_worst.f k a0 a1 a2 a3) (walkmilllaw04_worst.f (k + 1) a0 a1 a2 a3) := by
 intro a0 a1 a2 a3 k
 have ih0 := walkmilllaw04_worst.mono_l k
 unfold walkmilllaw04_worst.f
 repeat' first
   | (with_reducible exact ih0 _ _ _ _ _ _)
   | (with_reducible exact walkmilllaw04_lived.mono _ _ _ _ _ _)
   | (with_reducible exact walkmilllaw04_stays.mono _ _ _ _)
   | (with_reducible exact LeO.refl _)
   | (with_reducible exact LeO.none _)
   | (with_reducible refine LeO.ite ?_ ?_)
   | (with_reducible refine LeO.bind ?_ (fun _ => ?_))
   | exact ih0 _ _ _ _ _ _
   | exact walkmilllaw04_lived.mono _ _ _ _ _ _
   | exact walkmilllaw04_stays.mono _ _ _ _
   | exact LeO.none _
   | refine LeO.ite ?_ ?_
   | refine LeO.bind ?_ (fun _ => ?_)
def walkmilllaw04_worst.T1 : Bool × List (List Nat × List Nat) := (true, [([], []), ([], []), ([], []), ([], []), ([], []), ([3, 4], [3, 4]), ([0, 1, 2, 5, 5], [0, 1, 2, 5]), ([6, 6, 0, 1, 2, 3, 4, 5, 6], [6]), ([7, 0, 1, 2, 3, 4, 5, 6, 7], [])])
def walkmilllaw04_worst.B1 : List Nat := [0, 0, 0, 0, 0, 24, 63, 127, 255]
theorem walkmilllaw04_worst.tab1 : rtab .any (opsOf Tryz.f54 1) = walkmilllaw04_worst.T1 := by kernel_rfl
theorem walkmilllaw04_worst.bits1 : waitsOk walkmilllaw04_worst.T1.2 walkmilllaw04_worst.B1 = true := by kernel_rfl
def walkmilllaw04_worst.T5 : Bool × List (List Nat × List Nat) := (true, [([], []), ([], []), ([], []), ([], []), ([2, 3], [2, 3]), ([4], [4]), ([1, 5], [1, 5]), ([6], [6]), ([], []), ([8], [8]), ([], []), ([], []), ([10, 11], [10, 11]), ([12], [12]), ([9, 13], [9, 13]), ([14], [14]), ([15], [15]), ([7, 16], [7, 16]), ([0, 17], [0, 17]), ([18, 0, 1, 2, 3, 4, 5, 6, 7, 8, 9, 10, 11, 12, 13, 14, 15, 16, 17, 18], [0, 18])])
def walkmilllaw04_worst.B5 : List Nat := [0, 0, 0, 0, 12, 28, 62, 126, 0, 256, 0, 0, 3072, 7168, 16128, 32512, 65280, 131070, 262143, 524287]
theorem walkmilllaw04_worst.tab5 : rtab .any (opsOf Tryz.f54 5) = walkmilllaw04_worst.T5 := by kernel_rfl
theorem walkmilllaw04_worst.bits5 : waitsOk walkmilllaw04_worst.T5.2 walkmilllaw04_worst.B5 = true := by kernel_rfl
set_option maxHeartbeats 8000000 in
set_option maxRecDepth 100000 in
theorem walkmilllaw04_worst.calls (k : Nat) (A0_0 : Option Addr) (c0_0 : Nat) (l0_0 : List (S67)) (A0_1 : Option Addr) (c0_1 : Nat) (l0_1 : List Int) (A1 : Option Addr) (c1 : Nat) (l1 : List Int) (a2 : Int) (r : Int) (w : World) (hr0_0 : Kd.C k67 w A0_0 l0_0.length l0_0) (hc0_0 : l0_0.length ≤ c0_0) (hr0_1 : Kd.C (Kd.int .i64) w A0_1 l0_1.length l0_1) (hc0_1 : l0_1.length ≤ c0_1) (hr1 : Kd.C (Kd.int .i64) w A1 l1.length l1) (hc1 : l1.length ≤ c1) (h : walkmilllaw04_worst.f k l0_0 l0_1 l1 a2 = some r) :
  Calls Tryz.prog 54 #[.agg #[.slice A0_0 l0_0.length c0_0, .slice A0_1 l0_1.length c0_1], .slice A1 l1.length c1, .int .i64 a2] w fun e w' => e = .returned (.int .i64 r) ∧ Below w.heap.size w w' := by
 have hu25 := Tryz.underlying25
 have HR0_0 := Aside0.mk hr0_0
 have HC0_0 := Aside0.mk hc0_0
 clear hr0_0 hc0_0
 have HR0_1 := Aside0.mk hr0_1
 have HC0_1 := Aside0.mk hc0_1
 clear hr0_1 hc0_1
 have HR1 := Aside0.mk hr1
 have HC1 := Aside0.mk hc1
 clear hr1 hc1
 have HB := Aside0.mk (Below.refl w.heap.size w)
 have H : ((walkmilllaw04_stays.f k l0_0 l0_1 (([255] : List Int))).bind fun t105 => ((walkmilllaw04_lived.f k l0_0 l0_1 l1 a2 t105).bind fun t108 => (walkmilllaw04_worst.l0 k l1 t108 0 0 l0_0 l0_1))) = some r := h
 clear h
 obtain ⟨y102, hy102⟩ : ∃ y_ : List Int, y_ = (([255] : List Int)) := ⟨_, rfl⟩
 replace H : Option.bind (walkmilllaw04_stays.f k l0_0 l0_1 y102) _ = some r := yy hy102 H
 have Ny102 := Aside0.mk hy102
 clear hy102
 obtain ⟨t105, A4, H⟩ := bi H
 obtain ⟨t108, A5, H⟩ := bi H
 have H' := Aside0.mk H
 clear H
 go_enter Tryz.func54, Tryz.ntmps54
 try go_wp2_with (first | ((with_reducible refine gate_dst (N := 3) rfl ?_); refine bx 3 #[.slice A0_0 l0_0.length c0_0, .slice A0_1 l0_1.length c0_1] 25 ?_; intro gb101 hg w6 hbox hb; have BK101 := hbox; have GW101 := gs HB hg; have GE101 := gs HB hg; replace HB := bs HB hb; clear hb hbox hg))
 replace BK101 := Aside0.mk (blk_drew BK101.out)
 replace HB := Aside0.mk (below_drew1 HB.out)
 refine start_ (n := 9) (S := fun w' => w'.cell? ⟨gb101, 0, none⟩ = some (.slice A0_0 l0_0.length c0_0) ∧ w'.cell? ⟨gb101, 1, none⟩ = some (.slice A0_1 l0_1.length c0_1)) (ds := []) #[false, false, false, false, false, false, false, false, false] (by kernel_rfl) rfl rfl ⟨(blk_cell BK101.out 0).trans rfl, (blk_cell BK101.out 1).trans rfl⟩ (fun hHeld => ?_); refine with_tabW walkmilllaw04_worst.tab1 walkmilllaw04_worst.bits1 (fun HT_ HW_ => ?_)
 generalize w6.drew = w7 at BK101 HB hHeld ⊢
 refine pu 1 11 ?_
 refine pu 2 12 ?_
 refine tk 0 10 hHeld ?_
 refine tk 3 13 hHeld ?_
 refine on 4 (fun K hK => ?_)
 refine Kd.R_lit_step (Kd.int .u8) _ 5 ?hg (N := 14) ?hd (xs := ([255] : List Int)) (inner := [.int .u8 255]) (ok := fun _ => True) (okp := fun _ => True) ?hr ?hp (fun _ hk => hk) trivial (Below.refl _ _) (Nat.le_refl _) (by simp) ?_; (case hd => rfl); (case hg => rfl); (case hr => first | (go_simp; done) | (go_simp; rfl)); (case hp => exact (Reps.one (show Kd.M (Kd.int .u8) _ _ _ 255 [.int .u8 255] from rfl) (Reps.none _ _)))
 intro v103 w8 ho9 hb hg_ hnew_
 clear hg_ hnew_
 (first | rw [← Ny102.out] at ho9 | (simp only [Int.reduceToNat] at ho9; rw [← Ny102.out] at ho9))
 have HO104 := rl ho9 HB
 replace BK101 := bb BK101 hb
 replace HB := bs HB hb
 clear hb ho9
 obtain ⟨Ao10, co10, eo10⟩ := Kd.R_slice HO104.out
 (first | subst eo10 | (injection eo10 with f1_ f2_ f3_; have f4_ := f1_.symm; have f5_ := f3_.symm; clear f1_ f2_ f3_; subst f4_; subst f5_))
 refine hK.out _ _ ⟨(blk_cell BK101.out 0).trans rfl, (blk_cell BK101.out 1).trans rfl⟩ (fun hHeld => ?_)
 clear hK K
 refine norm_ (a' := ?_) ?_ ?_
 rotate_left
 ·show Act.put _ (some 14) _ = _
  simp only [Act.put, List.setIfInBounds_toArray, List.set_cons_zero, List.set_cons_succ, i64_w, i32_w]
  rfl
 refine on 5 (fun K hK => ?_)
 refine gO Tryz.func51 #[.agg #[.slice A0_0 l0_0.length c0_0, .slice A0_1 l0_1.length c0_1], .slice Ao10 y102.length co10] ?_
 with_reducible refine (walkmilllaw04_stays.calls k _ _ l0_0 _ _ l0_1 _ _ y102 t105 _ ?side1 ?side2 ?side3 ?side4 ?side5 ?side6 A4.out).mono ?_
 (case side1 => exact pC (Kd.C_below HR0_0.out HB.out))
 (case side2 => exact HC0_0.out)
 (case side3 => exact pC (Kd.C_below HR0_1.out HB.out))
 (case side4 => exact HC0_1.out)
 (case side5 => exact pC (Kd.R_reads' HO104.out).2.2)
 (case side6 => exact (Kd.R_reads' HO104.out).2.1)
 rintro e w11 ⟨v106, rfl, ho0, hb⟩
 refine ⟨_, rfl, ?_⟩
 replace HO104 := rb HO104 hb
 have HO107 := rl ho0 HB
 replace BK101 := bb BK101 hb
 replace HB := bs HB hb
 (try clear hb)
 (try clear hb2)
 (try clear hk)
 (try clear hi)
 (try clear ho0)
 obtain ⟨Ao12, co12, eo12⟩ := Kd.R_slice HO107.out
 (first | subst eo12 | (injection eo12 with f1_ f2_ f3_; have f4_ := f1_.symm; have f5_ := f3_.symm; clear f1_ f2_ f3_; subst f4_; subst f5_))
 refine hK.out _ _ ⟨(blk_cell BK101.out 0).trans rfl, (blk_cell BK101.out 1).trans rfl⟩ (fun hHeld => ?_)
 clear hK K
 refine norm_ (a' := ?_) ?_ ?_
 rotate_left
 ·show Act.put _ (some 15) _ = _
  simp only [Act.put, List.setIfInBounds_toArray, List.set_cons_zero, List.set_cons_succ, i64_w, i32_w]
  rfl
 refine on 6 (fun K hK => ?_)
 refine gO Tryz.func52 #[.agg #[.slice A0_0 l0_0.length c0_0, .slice A0_1 l0_1.length c0_1], .slice A1 l1.length c1, .int .i64 a2, .slice Ao12 t105.length co12] ?_
 with_reducible refine (walkmilllaw04_lived.calls k _ _ l0_0 _ _ l0_1 _ _ l1 a2 _ _ t105 t108 _ ?side1 ?side2 ?side3 ?side4 ?side5 ?side6 ?side7 ?side8 A5.out).mono ?_
 (case side1 => exact pC (Kd.C_below HR0_0.out HB.out))
 (case side2 => exact HC0_0.out)
 (case side3 => exact pC (Kd.C_below HR0_1.out HB.out))
 (case side4 => exact HC0_1.out)
 (case side5 => exact pC (Kd.C_below HR1.out HB.out))
 (case side6 => exact HC1.out)
 (case side7 => exact pC (Kd.R_reads' HO107.out).2.2)
 (case side8 => exact (Kd.R_reads' HO107.out).2.1)
 rintro e w13 ⟨v109, rfl, ho0, hb⟩
 refine ⟨_, rfl, ?_⟩
 replace HO104 := rb HO104 hb
 have HO110 := Aside0.mk (Kd.R_lower (Kd.R_new' ho0 (Kd.R_lt (pR HO107.out))) (below_size (pE HB)))
 replace HO107 := re HO107 ho0 hb
 replace BK101 := bb BK101 hb
 replace HB := bs HB hb
 (try clear hb)
 (try clear hb2)
 (try clear hk)
 (try clear hi)
 (try clear ho0)
 refine hK.out _ _ ⟨(blk_cell BK101.out 0).trans rfl, (blk_cell BK101.out 1).trans rfl⟩ (fun hHeld => ?_)
 clear hK K
 refine norm_ (a' := ?_) ?_ ?_
 rotate_left
 ·show Act.put _ (some 16) _ = _
  simp only [Act.put, List.setIfInBounds_toArray, List.set_cons_zero, List.set_cons_succ, i64_w, i32_w]
  rfl
 refine pu 7 7 ?_
 refine pu 8 8 ?_
 refine done_ (done_of HT_.out (by kernel_rfl)) ?_
 try go_wp2
 go_loopg [8, 9] k (fun kq v8 v9 w' => ∃ (x8_1 : Int) (x9_1 : Int), v8 = .int .i64 x8_1 ∧ v9 = .int .i64 x9_1 ∧ Aside0 (walkmilllaw04_worst.l0 kq l1 t108 x8_1 x9_1 l0_0 l0_1 = some r) ∧ Aside0 (kq ≤ k) ∧ Aside0 (Kd.R (Kd.int .i64) 3 w' w.heap.size (fun _ => True) v109 t108) ∧ Aside0 (w'.heap[gb101]? = some (.cells #[(.slice A0_0 l0_0.length c0_0), (.slice A0_1 l0_1.length c0_1)] 25 (0, 0))) ∧ Aside0 (Below w.heap.size w w'))
 case atStart => exact ⟨(0), (0), (by first | rfl | (simp; done) | (simp [*]; done)), (by first | rfl | (simp; done) | (simp [*]; done)), H', ⟨Nat.le_refl _⟩, ⟨by (with_reducible repeat (first | apply Kd.R_alloc | apply Kd.R_drewN | apply Kd.R_drew)); exact Kd.R_mono HO110.out (fun _ hk => trivial)⟩, ⟨pB BK101.out⟩, ⟨pE HB⟩⟩
 case round =>
  clear H'
  try clear c1
  try clear p2
  try clear c5
  obtain ⟨x8_1, x9_1, rfl, rfl, HA, HK1, HO_7, BK101, HB⟩ := hrel
  cases gk with
  | zero => exact absurd HA.out (by simp [walkmilllaw04_worst.l0])
  | succ k1 =>
   have H := HA.out
   clear HA
   simp only [walkmilllaw04_worst.l0] at H
   by_cases c14 : x9_1 < (l1.length : Int)
   ·rw [if_pos c14] at H
    have c14b0 : decide (x9_1 < (l1.length : Int)) = true := decide_eq_true c14
    clear c14
    by_cases c15 : 0 ≤ x9_1
    ·rw [if_pos c15] at H
     have c15b0 : decide (0 ≤ x9_1) = true := decide_eq_true c15
     clear c15
     by_cases c16 : 0 ≤ (rd l1 x9_1)
     ·rw [if_pos c16] at H
      have c16b0 : decide (0 ≤ (rd l1 x9_1)) = true := decide_eq_true c16
      clear c16
      by_cases c17 : (rd l1 x9_1) < (t108.length : Int)
      ·rw [if_pos c17] at H
       have c17b0 : decide ((rd l1 x9_1) < (t108.length : Int)) = true := decide_eq_true c17
       clear c17
       by_cases c18 : (rd l1 x9_1) < (l0_0.length : Int)
       ·rw [if_pos c18] at H
        have c18b0 : decide ((rd l1 x9_1) < (l0_0.length : Int)) = true := decide_eq_true c18
        clear c18
        obtain ⟨ji19, hji19⟩ : ∃ j_ : Int, (mx x8_1 (wrap64 ((rd t108 (rd l1 x9_1)) - ((rd_T67 l0_0 (rd l1 x9_1)).f1)))) = j_ := ⟨_, rfl⟩
        replace H : (walkmilllaw04_worst.l0 k1 l1 t108 ji19 (wrap64 (x9_1 + 1)) l0_0 l0_1) = some r := by first | (rw [hji19] at H; exact H) | (simp only [hji19] at H ⊢; exact H)
        have hji19_ : (if x8_1 < (wrap64 ((rd t108 (rd l1 x9_1)) - ((rd_T67 l0_0 (rd l1 x9_1)).f1))) then (wrap64 ((rd t108 (rd l1 x9_1)) - ((rd_T67 l0_0 (rd l1 x9_1)).f1))) else x8_1) = ji19 := hji19
        have H' := Aside0.mk H
        clear H
        try go_wp2
        replace HO_7 := Aside0.mk (Kd.R_drew HO_7.out)
        replace BK101 := Aside0.mk (blk_drew BK101.out)
        replace HB := Aside0.mk (below_drew1 HB.out)
        have p111 : 0 ≤ (x9_1 : Int) := dT
        have q111 : x9_1 < (l1.length : Int) := dT
        obtain ⟨ad111, e111, hx111_0⟩ := Kd.at_int HR1.out x9_1 p111 q111
        have hw111_0 := hx111_0
        cases e111
        replace hx111_0 := cut_ HB hx111_0
        replace p111 := eq_true p111
        replace q111 := eq_true q111
        obtain ⟨Ao21, co21, eo21⟩ := Kd.R_slice HO_7.out
        (first | subst eo21 | (injection eo21 with f1_ f2_ f3_; have f4_ := f1_.symm; have f5_ := f3_.symm; clear f1_ f2_ f3_; subst f4_; subst f5_))
        have p112 : 0 ≤ ((rd l1 x9_1) : Int) := dT
        have q112 : (rd l1 x9_1) < (t108.length : Int) := dT
        obtain ⟨ad112, e112, hx112_0⟩ := Kd.at_int (Kd.R_reads' HO_7.out).2.2 (rd l1 x9_1) p112 q112
        cases e112
        replace p112 := eq_true p112
        replace q112 := eq_true q112
        have p113 : 0 ≤ (x9_1 : Int) := dT
        have q113 : x9_1 < (l1.length : Int) := dT
        obtain ⟨ad113, e113, hx113_0⟩ := Kd.at_int HR1.out x9_1 p113 q113
        have hw113_0 := hx113_0
        obtain rfl : ad111 = ad113 := (by injection e113)
        replace hx113_0 := cut_ HB hx113_0
        replace p113 := eq_true p113
        replace q113 := eq_true q113
        have p114 : 0 ≤ ((rd l1 x9_1) : Int) := dT
        have q114 : (rd l1 x9_1) < (l0_0.length : Int) := dT
        obtain ⟨ad114, e114, hx114_0, hx114_1, hx114_2, hx114_3⟩ := at_T67 HR0_0.out (rd l1 x9_1) p114 q114
        have hw114_3 := hx114_3
        have hw114_2 := hx114_2
        have hw114_1 := hx114_1
        have hw114_0 := hx114_0
        cases e114
        replace hx114_0 := cut_ HB hx114_0
        replace hx114_1 := cut_ HB hx114_1
        replace hx114_2 := cut_ HB hx114_2
        replace hx114_3 := cut_ HB hx114_3
        replace p114 := eq_true p114
        replace q114 := eq_true q114
        refine start_ (n := 20) (S := fun w' => w'.cell? ⟨gb101, 0, none⟩ = some (.slice (some ad114) l0_0.length c0_0) ∧ w'.cell? ⟨gb101, 1, none⟩ = some (.slice A0_1 l0_1.length c0_1) ∧ w'.cell? (ad111.add (x9_1).toNat) = some (.int .i64 (rd l1 x9_1)) ∧ w'.cell? (ad112.add ((rd l1 x9_1)).toNat) = some (.int .i64 (rd t108 (rd l1 x9_1))) ∧ w'.cell? (ad111.add (x9_1).toNat) = some (.int .i64 (rd l1 x9_1)) ∧ w'.cell? (ad114.add (((rd l1 x9_1)).toNat * 4)) = some (.int .i64 ((rd_T67 l0_0 (rd l1 x9_1)).f0)) ∧ w'.cell? ⟨(ad114.add (((rd l1 x9_1)).toNat * 4)).block, (ad114.add (((rd l1 x9_1)).toNat * 4)).off + 1, none⟩ = some (.int .i64 ((rd_T67 l0_0 (rd l1 x9_1)).f1)) ∧ w'.cell? ⟨(ad114.add (((rd l1 x9_1)).toNat * 4)).block, (ad114.add (((rd l1 x9_1)).toNat * 4)).off + 2, none⟩ = some (.int .i64 ((rd_T67 l0_0 (rd l1 x9_1)).f2.f0)) ∧ w'.cell? ⟨(ad114.add (((rd l1 x9_1)).toNat * 4)).block, (ad114.add (((rd l1 x9_1)).toNat * 4)).off + 3, none⟩ = some (.int .i64 ((rd_T67 l0_0 (rd l1 x9_1)).f2.f1))) (ds := []) #[false, false, false, false, false, false, false, false, false, false, false, false, false, false, false, false, false, false, false, false] (by kernel_rfl) rfl rfl ⟨(blk_cell BK101.out 0).trans rfl, (blk_cell BK101.out 1).trans rfl, (cB HB hw111_0), hx112_0, (cB HB hw113_0), (cB HB hw114_0), (cB HB hw114_1), (cB HB hw114_2), (cB HB hw114_3)⟩ (fun hHeld => ?_); refine with_tabW walkmilllaw04_worst.tab5 walkmilllaw04_worst.bits5 (fun HT_ HW_ => ?_)
        generalize wr.drew = w20 at HO_7 BK101 HB hx111_0 hx112_0 hx113_0 hx114_0 hx114_1 hx114_2 hx114_3 hHeld ⊢
        refine pu 0 23 ?_
        refine pu 1 24 ?_
        refine pu 2 25 ?_
        refine pu 3 26 ?_
        refine pu 4 27 ?_
        refine pu 8 31 ?_
        refine pu 10 33 ?_
        refine pu 11 34 ?_
        refine pu 12 35 ?_
        refine tk 5 28 hHeld ?_
        refine pu 6 29 ?_
        refine tk 7 30 hHeld ?_
        refine tk 9 32 hHeld ?_
        refine tk 13 36 hHeld ?_
        refine pu 14 37 ?_
        refine pu 15 38 ?_
        refine tk 16 39 hHeld ?_
        refine pu 17 40 ?_
        refine pu 18 41 ?_
        refine pu 19 8 ?_
        refine done_ (done_of HT_.out (by kernel_rfl)) ?_
        try go_wp2
        go_roundg k1
        case measure => have := HK1.out; omega
        case rel => exact ⟨(ji19), (wrap64 (x9_1 + 1)), (by first | rfl | (simp; done) | (simp only [← hji19] <;> (first | rfl | simp)) | (simp [*]; done)), (by first | rfl | (simp; done) | (simp [*]; done)), H', ⟨by have := HK1.out; omega⟩, ⟨pR HO_7.out⟩, ⟨pB BK101.out⟩, ⟨pE HB⟩⟩
       ·rw [if_neg c18] at H
        exact absurd H (by simp)
      ·rw [if_neg c17] at H
       exact absurd H (by simp)
     ·rw [if_neg c16] at H
      exact absurd H (by simp)
    ·rw [if_neg c15] at H
     exact absurd H (by simp)
   ·rw [if_neg c14] at H
    have c14b0 : decide (x9_1 < (l1.length : Int)) = false := decide_eq_false c14
    clear c14
    obtain rfl := Option.some.inj H
    go_wp2
    go_ret
    exact ⟨eT, pE HB⟩
end Go.Proofs.YtlmglnobdcgbeaaGreat.P
