/- Part 7 of what the law's proof needs: words, walks of functions and plain facts. -/
import Derived.Deep.Slices
import Derived.OpenShut
import Derived.ChangeArms
import Derived.Test.YtikmfpjcdcckeaaGreatDoorU01
import Derived.Test.YtikmfpjcdcckeaaGreatDoorU02
import Derived.Test.YtikmfpjcdcckeaaGreatDoorU03
import Derived.Test.YtikmfpjcdcckeaaGreatDoorU04
import Derived.Test.YtikmfpjcdcckeaaGreatDoorU06
set_option linter.unusedVariables false
set_option linter.unusedSimpArgs false
namespace Go.Proofs.YtikmfpjcdcckeaaGreatDoor.P
open Go.RowKit Go.Proofs.YtikmfpjcdcckeaaGreatDoorW.PrintWords Go.Proofs.YtikmfpjcdcckeaaGreatDoorW.PrintLast Go.Proofs.YtikmfpjcdcckeaaGreatDoorW.PrintMore
attribute [local go_sem] max2_int min2_int max_two min_two max_three min_three max_four min_four
mutual
def walkmilllaw05_TenterTights.j0 : Nat → Int → List Int → Bool → List (S43) → List Int → Int → Int → Option (Bool)
 | 0, _, _, _, _, _, _, _ => none
 | k + 1, x1, x2, x22, x102000, x102001, x102002, x102003 => if x22 = true then ((walkmilllaw05_known.f).bind fun t103 => (some t103)) else ((walkmillref05_Copy.f x102000 x102001 x102002 x102003).bind fun bt104 => ((some (([] : List Int) : List Int)).bind fun y112 => (if y112.length + x2.length < 17592186044416 then ((some (y112 ++ x2 : List Int)).bind fun y115 => ((tenter_Tight.f k bt104.1 bt104.2.1 bt104.2.2.1 bt104.2.2.2 x1 y115).bind fun bt119 => ((walkmillref05_Same.f k bt104.1 bt104.2.1 bt104.2.2.1 bt104.2.2.2 x102000 x102001 x102002 x102003).bind fun t123 => (if t123 = true then ((walkmillref05_Ints.f k y115 x2).bind fun t124 => (walkmilllaw05_TenterTights.j1 k x1 x2 bt119.1 bt119.2 (!t124) x102000 x102001 x102002 x102003)) else (walkmilllaw05_TenterTights.j1 k x1 x2 bt119.1 bt119.2 true x102000 x102001 x102002 x102003))))) else (none))))
def walkmilllaw05_TenterTights.j1 : Nat → Int → List Int → List Int → Int → Bool → List (S43) → List Int → Int → Int → Option (Bool)
 | 0, _, _, _, _, _, _, _, _, _ => none
 | k + 1, x1, x2, x9, x10, x45, x102000, x102001, x102002, x102003 => if x45 = true then (some false) else ((walkmillref05_Check.f k x102000 x102001 x102002 x102003).bind fun t125 => (if t125 = 0 then ((walkmillref05_In.f x1 0 (wrap64 ((x102001.length : Int) - 1))).bind fun t126 => (if t126 = true then (walkmilllaw05_TenterTights.j2 k x1 x2 x9 x10 t125 (decide ((x2.length : Int) > 0)) x102000 x102001 x102002 x102003) else (walkmilllaw05_TenterTights.j2 k x1 x2 x9 x10 t125 false x102000 x102001 x102002 x102003))) else (walkmilllaw05_TenterTights.j4 k x1 x2 x9 x10 t125 x102000 x102001 x102002 x102003)))
def walkmilllaw05_TenterTights.j4 : Nat → Int → List Int → List Int → Int → Int → List (S43) → List Int → Int → Int → Option (Bool)
 | 0, _, _, _, _, _, _, _, _, _ => none
 | k + 1, x1, x2, x9, x10, x11, x102000, x102001, x102002, x102003 => if x11 = 0 then (if 0 ≤ x1 then (if x1 < (x102001.length : Int) then ((walkmillref05_Tight.f k x102000 x102001 x102002 x102003 (rd x102001 x1) x2).bind fun bt132 => (if bt132.2 = true then (if x10 = 0 then ((walkmillref05_Ints.f k x9 bt132.1).bind fun t136 => (if t136 = true then ((walkmilllaw05_known.f).bind fun t137 => (some t137)) else (some false))) else (some false)) else (if x10 = 9 then (if (x9.length : Int) = 0 then ((walkmilllaw05_known.f).bind fun t138 => (some t138)) else (some false)) else (some false)))) else (none)) else (none)) else (if x10 = x11 then (if (x9.length : Int) = 0 then ((walkmilllaw05_known.f).bind fun t139 => (some t139)) else (some false)) else (some false))
def walkmilllaw05_TenterTights.j2 : Nat → Int → List Int → List Int → Int → Int → Bool → List (S43) → List Int → Int → Int → Option (Bool)
 | 0, _, _, _, _, _, _, _, _, _, _ => none
 | k + 1, x1, x2, x9, x10, x11, x12, x102000, x102001, x102002, x102003 => walkmilllaw05_TenterTights.l0 k x1 x2 x9 x10 x11 x12 0 x102000 x102001 x102002 x102003
def walkmilllaw05_TenterTights.l0 : Nat → Int → List Int → List Int → Int → Int → Bool → Int → List (S43) → List Int → Int → Int → Option (Bool)
 | 0, _, _, _, _, _, _, _, _, _, _, _ => none
 | k + 1, x1, x2, x9, x10, x11, x12, x13, x102000, x102001, x102002, x102003 => if x13 < (x2.length : Int) then (if x12 = true then (if 0 ≤ x13 then ((walkmilllaw05_cloth.f x102000 x102001 x102002 x102003 (rd x2 x13)).bind fun t128 => (if t128 = true then (if x13 = 0 then (walkmilllaw05_TenterTights.l0 k x1 x2 x9 x10 x11 true (wrap64 (x13 + 1)) x102000 x102001 x102002 x102003) else (if 0 ≤ (wrap64 (x13 - 1)) then (if (wrap64 (x13 - 1)) < (x2.length : Int) then (walkmilllaw05_TenterTights.l0 k x1 x2 x9 x10 x11 (decide ((rd x2 x13) > (rd x2 (wrap64 (x13 - 1))))) (wrap64 (x13 + 1)) x102000 x102001 x102002 x102003) else (none)) else (none))) else (walkmilllaw05_TenterTights.l0 k x1 x2 x9 x10 x11 false (wrap64 (x13 + 1)) x102000 x102001 x102002 x102003))) else (none)) else (walkmilllaw05_TenterTights.l0 k x1 x2 x9 x10 x11 false (wrap64 (x13 + 1)) x102000 x102001 x102002 x102003)) else (if x12 = true then (walkmilllaw05_TenterTights.j4 k x1 x2 x9 x10 x11 x102000 x102001 x102002 x102003) else (walkmilllaw05_TenterTights.j4 k x1 x2 x9 x10 7 x102000 x102001 x102002 x102003))
end
def walkmilllaw05_TenterTights.f (k : Nat) (l0_0 : List (S43)) (l0_1 : List Int) (a0_2 : Int) (a0_3 : Int) (a1 : Int) (l2 : List Int) : Option (Bool) := (walkmilllaw05_large.f l0_0 l0_1 a0_2 a0_3).bind fun t102 => (if t102 = true then (walkmilllaw05_TenterTights.j0 k a1 l2 true l0_0 l0_1 a0_2 a0_3) else (walkmilllaw05_TenterTights.j0 k a1 l2 (decide ((l2.length : Int) > 12)) l0_0 l0_1 a0_2 a0_3))
theorem walkmilllaw05_TenterTights.mono_l : ∀ k, (∀ y0 y1 y2 y3 y4 y5 y6, LeO (walkmilllaw05_TenterTights.j0 k y0 y1 y2 y3 y4 y5 y6) (walkmilllaw05_TenterTights.j0 (k + 1) y0 y1 y2 y3 y4 y5 y6)) ∧ (∀ y0 y1 y2 y3 y4 y5 y6 y7 y8, LeO (walkmilllaw05_TenterTights.j1 k y0 y1 y2 y3 y4 y5 y6 y7 y8) (walkmilllaw05_TenterTights.j1 (k + 1) y0 y1 y2 y3 y4 y5 y6 y7 y8)) ∧ (∀ y0 y1 y2 y3 y4 y5 y6 y7 y8, LeO (walkmilllaw05_TenterTights.j4 k y0 y1 y2 y3 y4 y5 y6 y7 y8) (walkmilllaw05_TenterTights.j4 (k + 1) y0 y1 y2 y3 y4 y5 y6 y7 y8)) ∧ (∀ y0 y1 y2 y3 y4 y5 y6 y7 y8 y9, LeO (walkmilllaw05_TenterTights.j2 k y0 y1 y2 y3 y4 y5 y6 y7 y8 y9) (walkmilllaw05_TenterTights.j2 (k + 1) y0 y1 y2 y3 y4 y5 y6 y7 y8 y9)) ∧ (∀ y0 y1 y2 y3 y4 y5 y6 y7 y8 y9 y10, LeO (walkmilllaw05_TenterTights.l0 k y0 y1 y2 y3 y4 y5 y6 y7 y8 y9 y10) (walkmilllaw05_TenterTights.l0 (k + 1) y0 y1 y2 y3 y4 y5 y6 y7 y8 y9 y10))
 | 0 => ⟨fun _ _ _ _ _ _ _ r h => by simp [walkmilllaw05_TenterTights.j0] at h, fun _ _ _ _ _ _ _ _ _ r h => by simp [walkmilllaw05_TenterTights.j1] at h, fun _ _ _ _ _ _ _ _ _ r h => by simp [walkmilllaw05_TenterTights.j4] at h, fun _ _ _ _ _ _ _ _ _ _ r h => by simp [walkmilllaw05_TenterTights.j2] at h, fun _ _ _ _ _ _ _ _ _ _ _ r h => by simp [walkmilllaw05_TenterTights.l0] at h⟩
 | k + 1 => by
  obtain ⟨ih0, ih1, ih2, ih3, ih4⟩ := walkmilllaw05_TenterTights.mono_l k
  refine ⟨?_, ?_, ?_, ?_, ?_⟩
  ·intro y0 y1 y2 y3 y4 y5 y6
   unfold walkmilllaw05_TenterTights.j0
   repeat' first
   | (with_reducible exact ih0 _ _ _ _ _ _ _)
   | (with_reducible exact ih1 _ _ _ _ _ _ _ _ _)
   | (with_reducible exact ih2 _ _ _ _ _ _ _ _ _)
   | (with_reducible exact ih3 _ _ _ _ _ _ _ _ _ _)
   | (with_reducible exact ih4 _ _ _ _ _ _ _ _ _ _ _)
   | (with_reducible exact tenter_Tight.mono _ _ _ _ _ _ _)
   | (with_reducible exact walkmillref05_Check.mono _ _ _ _ _)
   | (with_reducible exact walkmillref05_Ints.mono _ _ _)
   | (with_reducible exact walkmillref05_Same.mono _ _ _ _ _ _ _ _ _)
   | (with_reducible exact walkmillref05_Tight.mono _ _ _ _ _ _ _)
   | (with_reducible exact LeO.refl _)
   | (with_reducible exact LeO.none _)
   | (with_reducible refine LeO.ite ?_ ?_)
   | (with_reducible refine LeO.bind ?_ (fun _ => ?_))
   | exact ih0 _ _ _ _ _ _ _
   | exact ih1 _ _ _ _ _ _ _ _ _
   | exact ih2 _ _ _ _ _ _ _ _ _
   | exact ih3 _ _ _ _ _ _ _ _ _ _
   | exact ih4 _ _ _ _ _ _ _ _ _ _ _
   | exact tenter_Tight.mono _ _ _ _ _ _ _
   | exact walkmillref05_Check.mono _ _ _ _ _
   | exact walkmillref05_Ints.mono _ _ _
   | exact walkmillref05_Same.mono _ _ _ _ _ _ _ _ _
   | exact walkmillref05_Tight.mono _ _ _ _ _ _ _
   | exact LeO.none _
   | refine LeO.ite ?_ ?_
   | refine LeO.bind ?_ (fun _ => ?_)
  ·intro y0 y1 y2 y3 y4 y5 y6 y7 y8
   unfold walkmilllaw05_TenterTights.j1
   repeat' first
   | (with_reducible exact ih0 _ _ _ _ _ _ _)
   | (with_reducible exact ih1 _ _ _ _ _ _ _ _ _)
   | (with_reducible exact ih2 _ _ _ _ _ _ _ _ _)
   | (with_reducible exact ih3 _ _ _ _ _ _ _ _ _ _)
   | (with_reducible exact ih4 _ _ _ _ _ _ _ _ _ _ _)
   | (with_reducible exact tenter_Tight.mono _ _ _ _ _ _ _)
   | (with_reducible exact walkmillref05_Check.mono _ _ _ _ _)
   | (with_reducible exact walkmillref05_Ints.mono _ _ _)
   | (with_reducible exact walkmillref05_Same.mono _ _ _ _ _ _ _ _ _)
   | (with_reducible exact walkmillref05_Tight.mono _ _ _ _ _ _ _)
   | (with_reducible exact LeO.refl _)
   | (with_reducible exact LeO.none _)
   | (with_reducible refine LeO.ite ?_ ?_)
   | (with_reducible refine LeO.bind ?_ (fun _ => ?_))
   | exact ih0 _ _ _ _ _ _ _
   | exact ih1 _ _ _ _ _ _ _ _ _
   | exact ih2 _ _ _ _ _ _ _ _ _
   | exact ih3 _ _ _ _ _ _ _ _ _ _
   | exact ih4 _ _ _ _ _ _ _ _ _ _ _
   | exact tenter_Tight.mono _ _ _ _ _ _ _
   | exact walkmillref05_Check.mono _ _ _ _ _
   | exact walkmillref05_Ints.mono _ _ _
   | exact walkmillref05_Same.mono _ _ _ _ _ _ _ _ _
   | exact walkmillref05_Tight.mono _ _ _ _ _ _ _
   | exact LeO.none _
   | refine LeO.ite ?_ ?_
   | refine LeO.bind ?_ (fun _ => ?_)
  ·intro y0 y1 y2 y3 y4 y5 y6 y7 y8
   unfold walkmilllaw05_TenterTights.j4
   repeat' first
   | (with_reducible exact ih0 _ _ _ _ _ _ _)
   | (with_reducible exact ih1 _ _ _ _ _ _ _ _ _)
   | (with_reducible exact ih2 _ _ _ _ _ _ _ _ _)
   | (with_reducible exact ih3 _ _ _ _ _ _ _ _ _ _)
   | (with_reducible exact ih4 _ _ _ _ _ _ _ _ _ _ _)
   | (with_reducible exact tenter_Tight.mono _ _ _ _ _ _ _)
   | (with_reducible exact walkmillref05_Check.mono _ _ _ _ _)
   | (with_reducible exact walkmillref05_Ints.mono _ _ _)
   | (with_reducible exact walkmillref05_Same.mono _ _ _ _ _ _ _ _ _)
   | (with_reducible exact walkmillref05_Tight.mono _ _ _ _ _ _ _)
   | (with_reducible exact LeO.refl _)
   | (with_reducible exact LeO.none _)
   | (with_reducible refine LeO.ite ?_ ?_)
   | (with_reducible refine LeO.bind ?_ (fun _ => ?_))
   | exact ih0 _ _ _ _ _ _ _
   | exact ih1 _ _ _ _ _ _ _ _ _
   | exact ih2 _ _ _ _ _ _ _ _ _
   | exact ih3 _ _ _ _ _ _ _ _ _ _
   | exact ih4 _ _ _ _ _ _ _ _ _ _ _
   | exact tenter_Tight.mono _ _ _ _ _ _ _
   | exact walkmillref05_Check.mono _ _ _ _ _
   | exact walkmillref05_Ints.mono _ _ _
   | exact walkmillref05_Same.mono _ _ _ _ _ _ _ _ _
   | exact walkmillref05_Tight.mono _ _ _ _ _ _ _
   | exact LeO.none _
   | refine LeO.ite ?_ ?_
   | refine LeO.bind ?_ (fun _ => ?_)
  ·intro y0 y1 y2 y3 y4 y5 y6 y7 y8 y9
   unfold walkmilllaw05_TenterTights.j2
   repeat' first
   | (with_reducible exact ih0 _ _ _ _ _ _ _)
   | (with_reducible exact ih1 _ _ _ _ _ _ _ _ _)
   | (with_reducible exact ih2 _ _ _ _ _ _ _ _ _)
   | (with_reducible exact ih3 _ _ _ _ _ _ _ _ _ _)
   | (with_reducible exact ih4 _ _ _ _ _ _ _ _ _ _ _)
   | (with_reducible exact tenter_Tight.mono _ _ _ _ _ _ _)
   | (with_reducible exact walkmillref05_Check.mono _ _ _ _ _)
   | (with_reducible exact walkmillref05_Ints.mono _ _ _)
   | (with_reducible exact walkmillref05_Same.mono _ _ _ _ _ _ _ _ _)
   | (with_reducible exact walkmillref05_Tight.mono _ _ _ _ _ _ _)
   | (with_reducible exact LeO.refl _)
   | (with_reducible exact LeO.none _)
   | (with_reducible refine LeO.ite ?_ ?_)
   | (with_reducible refine LeO.bind ?_ (fun _ => ?_))
   | exact ih0 _ _ _ _ _ _ _
   | exact ih1 _ _ _ _ _ _ _ _ _
   | exact ih2 _ _ _ _ _ _ _ _ _
   | exact ih3 _ _ _ _ _ _ _ _ _ _
   | exact ih4 _ _ _ _ _ _ _ _ _ _ _
   | exact tenter_Tight.mono _ _ _ _ _ _ _
   | exact walkmillref05_Check.mono _ _ _ _ _
   | exact walkmillref05_Ints.mono _ _ _
   | exact walkmillref05_Same.mono _ _ _ _ _ _ _ _ _
   | exact walkmillref05_Tight.mono _ _ _ _ _ _ _
   | exact LeO.none _
   | refine LeO.ite ?_ ?_
   | refine LeO.bind ?_ (fun _ => ?_)
  ·intro y0 y1 y2 y3 y4 y5 y6 y7 y8 y9 y10
   unfold walkmilllaw05_TenterTights.l0
   repeat' first
   | (with_reducible exact ih0 _ _ _ _ _ _ _)
   | (with_reducible exact ih1 _ _ _ _ _ _ _ _ _)
   | (with_reducible exact ih2 _ _ _ _ _ _ _ _ _)
   | (with_reducible exact ih3 _ _ _ _ _ _ _ _ _ _)
   | (with_reducible exact ih4 _ _ _ _ _ _ _ _ _ _ _)
   | (with_reducible exact tenter_Tight.mono _ _ _ _ _ _ _)
   | (with_reducible exact walkmillref05_Check.mono _ _ _ _ _)
   | (with_reducible exact walkmillref05_Ints.mono _ _ _)
   | (with_reducible exact walkmillref05_Same.mono _ _ _ _ _ _ _ _ _)
   | (with_reducible exact walkmillref05_Tight.mono _ _ _ _ _ _ _)
   | (with_reducible exact LeO.refl _)
   | (with_reducible exact LeO.none _)
   | (with_reducible refine LeO.ite ?_ ?_)
   | (with_reducible refine LeO.bind ?_ (fun _ => ?_))
   | exact ih0 _ _ _ _ _ _ _
   | exact ih1 _ _ _ _ _ _ _ _ _
   | exact ih2 _ _ _ _ _ _ _ _ _
   | exact ih3 _ _ _ _ _ _ _ _ _ _
   | exact ih4 _ _ _ _ _ _ _ _ _ _ _
   | exact tenter_Tight.mono _ _ _ _ _ _ _
   | exact walkmillref05_Check.mono _ _ _ _ _
   | exact walkmillref05_Ints.mono _ _ _
   | exact walkmillref05_Same.mono _ _ _ _ _ _ _ _ _
   | exact walkmillref05_Tight.mono _ _ _ _ _ _ _
   | exact LeO.none _
   | refine LeO.ite ?_ ?_
   | refine LeO.bind ?_ (fun _ => ?_)
theorem walkmilllaw05_TenterTights.dead_j1 : ∀ k y0 y1 y2 y3 y5 y6 y7 y8 r, walkmilllaw05_TenterTights.j1 k y0 y1 y2 y3 true y5 y6 y7 y8 = some r → r = true → False := by
 intro k y0 y1 y2 y3 y5 y6 y7 y8 r h hr
 cases k with
 | zero => simp [walkmilllaw05_TenterTights.j1] at h
 | succ k => exact absurd ((Option.some.inj (show (some false : Option Bool) = some r from h)).trans hr) (by simp)
theorem walkmilllaw05_TenterTights.mono : ∀ a0 a1 a2 a3 a4 a5 k, LeO (walkmilllaw05_TenterTights.f k a0 a1 a2 a3 a4 a5) (walkmilllaw05_TenterTights.f (k + 1) a0 a1 a2 a3 a4 a5) := by
 intro a0 a1 a2 a3 a4 a5 k
 obtain ⟨ih0, ih1, ih2, ih3, ih4⟩ := walkmilllaw05_TenterTights.mono_l k
 unfold walkmilllaw05_TenterTights.f
 repeat' first
   | (with_reducible exact ih0 _ _ _ _ _ _ _)
   | (with_reducible exact ih1 _ _ _ _ _ _ _ _ _)
   | (with_reducible exact ih2 _ _ _ _ _ _ _ _ _)
   | (with_reducible exact ih3 _ _ _ _ _ _ _ _ _ _)
   | (with_reducible exact ih4 _ _ _ _ _ _ _ _ _ _ _)
   | (with_reducible exact tenter_Tight.mono _ _ _ _ _ _ _)
   | (with_reducible exact walkmillref05_Check.mono _ _ _ _ _)
   | (with_reducible exact walkmillref05_Ints.mono _ _ _)
   | (with_reducible exact walkmillref05_Same.mono _ _ _ _ _ _ _ _ _)
   | (with_reducible exact walkmillref05_Tight.mono _ _ _ _ _ _ _)
   | (with_reducible exact LeO.refl _)
   | (with_reducible exact LeO.none _)
   | (with_reducible refine LeO.ite ?_ ?_)
   | (with_reducible refine LeO.bind ?_ (fun _ => ?_))
   | exact ih0 _ _ _ _ _ _ _
   | exact ih1 _ _ _ _ _ _ _ _ _
   | exact ih2 _ _ _ _ _ _ _ _ _
   | exact ih3 _ _ _ _ _ _ _ _ _ _
   | exact ih4 _ _ _ _ _ _ _ _ _ _ _
   | exact tenter_Tight.mono _ _ _ _ _ _ _
   | exact walkmillref05_Check.mono _ _ _ _ _
   | exact walkmillref05_Ints.mono _ _ _
   | exact walkmillref05_Same.mono _ _ _ _ _ _ _ _ _
   | exact walkmillref05_Tight.mono _ _ _ _ _ _ _
   | exact LeO.none _
   | refine LeO.ite ?_ ?_
   | refine LeO.bind ?_ (fun _ => ?_)
def walkmilllaw05_TenterTights.T13 : Bool × List (List Nat × List Nat) := (true, [([], []), ([0], [0]), ([1], [1]), ([1], [1]), ([1], [1]), ([3, 4, 1], [1, 3, 4]), ([5, 1], [1, 5]), ([2, 6, 1, 1], [1, 2, 6]), ([1, 7], [1, 7]), ([8, 7], [8]), ([9], [9]), ([10, 9], [9, 10]), ([11, 9, 9], [9, 11]), ([12], [12]), ([12], [12]), ([13, 14, 12], [12, 13, 14]), ([15, 12], [12, 15]), ([12], [12]), ([12], [12]), ([18, 12], [12, 18]), ([17, 19, 12], [12, 17, 19]), ([20, 12], [12, 20]), ([16, 21, 12], [12, 16, 21]), ([12, 22, 9], [9, 12, 22]), ([9, 23], [9, 23]), ([24, 12, 0, 1, 2, 3, 4, 5, 6, 7, 8, 9, 10, 11, 12, 13, 14, 15, 16, 17, 18, 19, 20, 21, 22, 23, 24], [0, 24])])
def walkmilllaw05_TenterTights.B13 : List Nat := [0, 1, 3, 3, 3, 27, 59, 127, 255, 511, 1023, 2047, 4095, 8191, 8191, 32767, 65535, 8191, 8191, 270335, 925695, 1974271, 4194303, 8388607, 16777215, 33554431]
theorem walkmilllaw05_TenterTights.tab13 : rtab .any (opsOf Tryz.f7 13) = walkmilllaw05_TenterTights.T13 := by kernel_rfl
theorem walkmilllaw05_TenterTights.bits13 : waitsOk walkmilllaw05_TenterTights.T13.2 walkmilllaw05_TenterTights.B13 = true := by kernel_rfl
def walkmilllaw05_TenterTights.T17 : Bool × List (List Nat × List Nat) := (true, [([], []), ([], []), ([1], [1]), ([], []), ([2, 3], [2, 3]), ([4], [4]), ([], []), ([0, 5, 6], [0, 5, 6]), ([7], [7]), ([8], [8]), ([8], [8]), ([9, 7, 0, 1, 2, 3, 4, 5, 6, 7, 8, 9], [9]), ([10, 11, 0, 1, 2, 3, 4, 5, 6, 7, 8, 9, 10, 11], [10])])
def walkmilllaw05_TenterTights.B17 : List Nat := [0, 0, 2, 0, 14, 30, 0, 127, 255, 511, 511, 1023, 4095]
theorem walkmilllaw05_TenterTights.tab17 : rtab .any (opsOf Tryz.f7 17) = walkmilllaw05_TenterTights.T17 := by kernel_rfl
theorem walkmilllaw05_TenterTights.bits17 : waitsOk walkmilllaw05_TenterTights.T17.2 walkmilllaw05_TenterTights.B17 = true := by kernel_rfl
set_option maxHeartbeats 8000000 in
set_option maxRecDepth 100000 in
theorem walkmilllaw05_TenterTights.calls_true (k : Nat) (A0_0 : Option Addr) (c0_0 : Nat) (l0_0 : List (S43)) (A0_1 : Option Addr) (c0_1 : Nat) (l0_1 : List Int) (a0_2 : Int) (a0_3 : Int) (a1 : Int) (A2 : Option Addr) (c2 : Nat) (l2 : List Int) (r : Bool) (w : World) (hr0_0 : Kd.C k43 w A0_0 l0_0.length l0_0) (hc0_0 : l0_0.length ≤ c0_0) (hr0_1 : Kd.C (Kd.int .i64) w A0_1 l0_1.length l0_1) (hc0_1 : l0_1.length ≤ c0_1) (hr2 : Kd.C (Kd.int .i64) w A2 l2.length l2) (hc2 : l2.length ≤ c2) (hrt : r = true) (hLd : LaidT w) (h : walkmilllaw05_TenterTights.f k l0_0 l0_1 a0_2 a0_3 a1 l2 = some r) :
  Calls Tryz.prog 7 #[.agg #[.slice A0_0 l0_0.length c0_0, .slice A0_1 l0_1.length c0_1, .int .i64 a0_2, .int .i64 a0_3], .int .i64 a1, .slice A2 l2.length c2] w fun e w' => e = .returned (.bool r) ∧ Below w.heap.size w w' := by
 have hu25 := Tryz.underlying25
 have HRT := Aside0.mk hrt
 clear hrt
 have HR0_0 := Aside0.mk hr0_0
 have HC0_0 := Aside0.mk hc0_0
 clear hr0_0 hc0_0
 have HR0_1 := Aside0.mk hr0_1
 have HC0_1 := Aside0.mk hc0_1
 clear hr0_1 hc0_1
 have HR2 := Aside0.mk hr2
 have HC2 := Aside0.mk hc2
 clear hr2 hc2
 have HLd := Aside0.mk hLd
 clear hLd
 have HB := Aside0.mk (Below.refl w.heap.size w)
 have H : ((walkmilllaw05_large.f l0_0 l0_1 a0_2 a0_3).bind fun t102 => (if t102 = true then (walkmilllaw05_TenterTights.j0 k a1 l2 true l0_0 l0_1 a0_2 a0_3) else (walkmilllaw05_TenterTights.j0 k a1 l2 (decide ((l2.length : Int) > 12)) l0_0 l0_1 a0_2 a0_3))) = some r := h
 clear h
 have HC4 := Aside0.mk H
 clear H
 go_enter Tryz.func7, Tryz.ntmps7
 go_upto_region 1 with (first | ((with_reducible refine gate_dst (N := 3) rfl ?_); (try (refine gate_guard (by rfl) ?_; dsimp only)); refine bx 3 #[.slice A0_0 l0_0.length c0_0, .slice A0_1 l0_1.length c0_1, .int .i64 a0_2, .int .i64 a0_3] 25 ?_; intro gb101 hg w5 hbox hb; have BK101 := hbox; have GW101 := gs HB hg; have GE101 := gs HB hg; replace HB := bs HB hb; clear hb hbox hg))
 (try simp only [Act.put, List.setIfInBounds_toArray, List.set_cons_zero, List.set_cons_succ])
 go_cut [22] (fun v22 wc => ∃ (kq : Nat) (x22_3 : Bool), v22 = .bool x22_3 ∧ Aside0 (walkmilllaw05_TenterTights.j0 kq a1 l2 x22_3 l0_0 l0_1 a0_2 a0_3 = some r) ∧ Aside0 (kq ≤ k) ∧ Aside0 (wc.heap[gb101]? = some (.cells #[(.slice A0_0 l0_0.length c0_0), (.slice A0_1 l0_1.length c0_1), .int .i64 a0_2, .int .i64 a0_3] 25 (0, 0))) ∧ Aside0 (Below w.heap.size w wc))
 case first =>
  have H := HC4.out
  clear HC4
  obtain ⟨t102, A6, H⟩ := bi H
  by_cases c7 : t102 = true
  ·subst c7
   rw [if_pos rfl] at H
   have H' := Aside0.mk H
   clear H
   obtain ⟨hcz8_0, hcz8_1, hcz8_2, hcz8_3, hfz8_0, hfz8_1, hfz8_2, hfz8_3⟩ := cf4 BK101
   go_wp2_with (first | ((with_reducible refine gc 12 rfl ?_); refine gL 17 Tryz.func12 #[.agg #[.slice A0_0 l0_0.length c0_0, .slice A0_1 l0_1.length c0_1, .int .i64 a0_2, .int .i64 a0_3]] ?_; (with_reducible refine (walkmilllaw05_large.calls _ _ l0_0 _ _ l0_1 a0_2 a0_3 true _ ?side1 ?side2 ?side3 ?side4 A6.out).mono ?_); (case side1 => exact pC (Kd.C_below HR0_0.out HB.out)); (case side2 => exact HC0_0.out); (case side3 => exact pC (Kd.C_below HR0_1.out HB.out)); (case side4 => exact HC0_1.out); rintro e w9 ⟨rfl, hb⟩; refine ⟨_, rfl, ?_⟩; replace BK101 := bb BK101 hb; replace HB := bs HB hb; clear hb))
   go_meet
   case rel => exact ⟨_, (true), (by first | rfl | (simp; done) | (simp [*]; done)), H', ⟨by first | omega | exact Nat.le_refl _⟩, ⟨by (with_reducible repeat (first | refine blk_drewN ?_ _ | refine blk_drew ?_ | refine blk_alloc ?_ _)); exact BK101.out⟩, ⟨pE HB⟩⟩
  ·replace c7 := Bool.eq_false_iff.mpr c7
   subst c7
   rw [if_neg (show ¬ (false = true) by decide)] at H
   have H' := Aside0.mk H
   clear H
   obtain ⟨hcz10_0, hcz10_1, hcz10_2, hcz10_3, hfz10_0, hfz10_1, hfz10_2, hfz10_3⟩ := cf4 BK101
   go_wp2_with (first | ((with_reducible refine gc 12 rfl ?_); refine gL 17 Tryz.func12 #[.agg #[.slice A0_0 l0_0.length c0_0, .slice A0_1 l0_1.length c0_1, .int .i64 a0_2, .int .i64 a0_3]] ?_; (with_reducible refine (walkmilllaw05_large.calls _ _ l0_0 _ _ l0_1 a0_2 a0_3 false _ ?side1 ?side2 ?side3 ?side4 A6.out).mono ?_); (case side1 => exact pC (Kd.C_below HR0_0.out HB.out)); (case side2 => exact HC0_0.out); (case side3 => exact pC (Kd.C_below HR0_1.out HB.out)); (case side4 => exact HC0_1.out); rintro e w11 ⟨rfl, hb⟩; refine ⟨_, rfl, ?_⟩; replace BK101 := bb BK101 hb; replace HB := bs HB hb; clear hb))
   go_meet
   case rel => exact ⟨_, (decide ((l2.length : Int) > 12)), (by first | rfl | (simp; done) | (simp [*]; done)), H', ⟨by first | omega | exact Nat.le_refl _⟩, ⟨by (with_reducible repeat (first | refine blk_drewN ?_ _ | refine blk_drew ?_ | refine blk_alloc ?_ _)); exact BK101.out⟩, ⟨pE HB⟩⟩
 case rest =>
  clear HC4
  try clear c1
  try clear c2
  try clear p2
  try clear c7
  try clear hcz10_0
  try clear hcz10_1
  try clear hcz10_2
  try clear hcz10_3
  try clear hcz8_0
  try clear hcz8_1
  try clear hcz8_2
  try clear hcz8_3
  try clear hfz10_0
  try clear hfz10_1
  try clear hfz10_2
  try clear hfz10_3
  try clear hfz8_0
  try clear hfz8_1
  try clear hfz8_2
  try clear hfz8_3
  obtain ⟨kq, x22_3, rfl, HA, HJ3, BK101, HB⟩ := hcut
  cases kq with
  | zero => exact absurd HA.out (by simp [walkmilllaw05_TenterTights.j0])
  | succ kj3 =>
   have H := HA.out
   clear HA
   simp only [walkmilllaw05_TenterTights.j0] at H
   by_cases c12 : x22_3 = true
   ·subst c12
    rw [if_pos rfl] at H
    obtain ⟨t103, A13, H⟩ := bi H
    obtain rfl := Option.some.inj H
    go_wp2_with (first | ((with_reducible refine gc 13 rfl ?_); refine gL 23 Tryz.func13 #[] ?_; (with_reducible refine (walkmilllaw05_known.calls t103 _ A13.out (LaidT.below HLd.out (pE HB))).mono ?_); rintro e w14 ⟨rfl, hb⟩; refine ⟨_, rfl, ?_⟩; replace BK101 := bb BK101 hb; replace HB := bs HB hb; clear hb))
    go_ret
    exact ⟨eT, pE HB⟩
   ·replace c12 := Bool.eq_false_iff.mpr c12
    subst c12
    rw [if_neg (show ¬ (false = true) by decide)] at H
    obtain ⟨⟨t104, t107, t110, t111⟩, A15, H⟩ := bi H
    obtain ⟨y112, hy112⟩ : ∃ y_ : List Int, y_ = (([] : List Int)) := ⟨_, rfl⟩
    replace H : (if y112.length + l2.length < 17592186044416 then ((some (y112 ++ l2 : List Int)).bind fun y115 => ((tenter_Tight.f kj3 t104 t107 t110 t111 a1 y115).bind fun bt119 => ((walkmillref05_Same.f kj3 t104 t107 t110 t111 l0_0 l0_1 a0_2 a0_3).bind fun t123 => (if t123 = true then ((walkmillref05_Ints.f kj3 y115 l2).bind fun t124 => (walkmilllaw05_TenterTights.j1 kj3 a1 l2 bt119.1 bt119.2 (!t124) l0_0 l0_1 a0_2 a0_3)) else (walkmilllaw05_TenterTights.j1 kj3 a1 l2 bt119.1 bt119.2 true l0_0 l0_1 a0_2 a0_3))))) else (none)) = some r := yy hy112 H
    have Ny112 := Aside0.mk hy112
    clear hy112
    by_cases c16 : y112.length + l2.length < 17592186044416
    ·rw [if_pos c16] at H
     have LMc16 := Aside0.mk c16
     clear c16
     obtain ⟨y115, hy115⟩ : ∃ y_ : List Int, y_ = (y112 ++ l2) := ⟨_, rfl⟩
     replace H : ((tenter_Tight.f kj3 t104 t107 t110 t111 a1 y115).bind fun bt119 => ((walkmillref05_Same.f kj3 t104 t107 t110 t111 l0_0 l0_1 a0_2 a0_3).bind fun t123 => (if t123 = true then ((walkmillref05_Ints.f kj3 y115 l2).bind fun t124 => (walkmilllaw05_TenterTights.j1 kj3 a1 l2 bt119.1 bt119.2 (!t124) l0_0 l0_1 a0_2 a0_3)) else (walkmilllaw05_TenterTights.j1 kj3 a1 l2 bt119.1 bt119.2 true l0_0 l0_1 a0_2 a0_3)))) = some r := yy hy115 H
     have Ny115 := Aside0.mk hy115
     clear hy115
     obtain ⟨⟨t119, t122⟩, A17, H⟩ := bi H
     have HC18 := Aside0.mk H
     clear H
     obtain ⟨hcz19_0, hcz19_1, hcz19_2, hcz19_3, hfz19_0, hfz19_1, hfz19_2, hfz19_3⟩ := cf4 BK101
     go_upto_region 5 with (first | ((with_reducible refine gc 14 rfl ?_); refine gL 25 Tryz.func14 #[.agg #[.slice A0_0 l0_0.length c0_0, .slice A0_1 l0_1.length c0_1, .int .i64 a0_2, .int .i64 a0_3]] ?_; (with_reducible refine (walkmillref05_Copy.calls _ _ l0_0 _ _ l0_1 a0_2 a0_3 t104 t107 t110 t111 _ ?side1 ?side2 ?side3 ?side4 A15.out).mono ?_); (case side1 => exact pC (Kd.C_below HR0_0.out HB.out)); (case side2 => exact HC0_0.out); (case side3 => exact pC (Kd.C_below HR0_1.out HB.out)); (case side4 => exact HC0_1.out); rintro e w20 ⟨v105, v108, rfl, ho0, ho1, hb⟩; refine ⟨_, rfl, ?_⟩; have HO106 := rl ho0 HB; have HO109 := rl ho1 HB; replace BK101 := bb BK101 hb; replace HB := bs HB hb; clear hb ho0 ho1) | ((with_reducible refine gate_dst (N := 26) rfl ?_); (try (refine gate_guard (by rfl) ?_; dsimp only)); refine Kd.R_lit (Kd.int .i64) _ 3 ?hg (N := 26) ?hd (xs := ([] : List Int)) (inner := []) (ok := fun _ => True) (okp := fun _ => True) ?hr ?hp (fun _ hk => hk) trivial (Below.refl _ _) (Nat.le_refl _) (by simp) ?_; (case hd => rfl); (case hg => rfl); (case hr => first | (go_simp; done) | (go_simp; rfl)); (case hp => exact (Reps.none _ _)); intro v113 w21 ho22 hb hg_ hnew_; clear hg_ hnew_; (first | rw [← Ny112.out] at ho22 | (simp only [Int.reduceToNat] at ho22; rw [← Ny112.out] at ho22)); replace HO106 := rb HO106 hb; have HO114 := Aside0.mk (Kd.R_lower (Kd.R_new' ho22 (Kd.R_lt (pR HO109.out))) (below_size (pE HB))); replace HO109 := re HO109 ho22 hb; replace BK101 := bb BK101 hb; replace HB := bs HB hb; clear hb ho22) | ((with_reducible refine gate_builtin (b := .append) (xs := #[.tmp 26, .tmp 27]) rfl ?_); (try (refine gate_guard (by rfl) ?_; dsimp only)); at_builtin; refine Kd.R_append_rows (Kd.int .i64) (w0 := w) w.heap.size rfl (.tmp 26) (.tmp 27) 23 3 (.int .i64 0) 8 rfl Tryz.underlying23 info3 rfl (by decide) (by omega) v113 y112 l2 _ _ _ (fun k_ => some k_ ≠ (v108 : Value).ownBlock) (fun _ => False) rfl rfl ?aO ?aR (fun _ _ h => h) (fun _ h => h.elim) ?aF ?aB ?aS ?aL ?_; (case aR => exact pC (Kd.C_below HR2.out HB.out)); (case aB => exact (pE HB)); (case aF => exact (fun k_ hk => Kd.fresh' (Kd.R_lt (pR HO109.out)) k_ hk)); (case aO => exact (by refine pR ?_; exact Kd.R_mono HO114.out (fun _ hk => hk.2))); (case aS => exact (below_size (pE HB))); (case aL => have := LMc16.out; omega); intro v116 w23 ho hb hg hat; rw [← Ny115.out] at ho; replace BK101 := Aside0.mk (blk_grown (g := gb101) (o := .cells #[.slice A0_0 l0_0.length c0_0, .slice A0_1 l0_1.length c0_1, .int .i64 a0_2, .int .i64 a0_3] 25 (0, 0)) (pB BK101.out) hg (Kd.R_ne HO114.out BK101.out (by decide))); replace HO106 := Aside0.mk (Kd.R_over' (pR HO106.out) (Kd.R_typed (pR HO114.out)) (by decide) hg); replace HO109 := Aside0.mk (Kd.R_after (ok := (fun _ => True)) (pR HO109.out) hg hat); replace HB := Aside0.mk (hb); have HO117 := Aside0.mk (ho); clear HO114; clear ho hb hg hat) | ((with_reducible refine gate_dst (N := 7) rfl ?_); (try (refine gate_guard (by rfl) ?_; dsimp only)); refine bx 7 #[.slice none 0 0, .slice none 0 0, .int .i64 0, .int .i64 0] 25 ?_; intro gb118 hg w24 hbox hb; replace HO106 := rb HO106 hb; replace HO109 := rb HO109 hb; replace HO117 := rb HO117 hb; have BK118 := hbox; have GW118 := gs HB hg; have GE118 := gs HB hg; replace HB := bs HB hb; have NB101_118 := nl BK101 hg; have NB118_101 := nr BK101 hg; replace BK101 := bb BK101 hb; clear hb hbox hg; obtain ⟨Ao25, co25, eo25⟩ := Kd.R_slice HO106.out; subst eo25; have hnb26 := NB118_101.out; have hnc26 := NB101_118.out; obtain ⟨hcz27_0, hcz27_1, hcz27_2, hcz27_3, hfz27_0, hfz27_1, hfz27_2, hfz27_3⟩ := cf4 BK118; obtain ⟨Ao28, co28, eo28⟩ := Kd.R_slice HO109.out; subst eo28; obtain ⟨Ao29, co29, eo29⟩ := Kd.R_slice HO117.out; subst eo29) | ((with_reducible refine gc 32 rfl ?_); refine gL 33 Tryz.func32 #[.agg #[.slice Ao25 t104.length co25, .slice Ao28 t107.length co28, .int .i64 t110, .int .i64 t111], .int .i64 a1, .slice Ao29 y115.length co29] ?_; (with_reducible refine (tenter_Tight.calls kj3 _ _ t104 _ _ t107 t110 t111 a1 _ _ y115 t119 t122 _ ?side1 ?side2 ?side3 ?side4 ?side5 ?side6 A17.out).mono ?_); (case side1 => refine (Kd.R_reads' (e := 43) (base := w.heap.size) (ok := fun k_ => True) (n := t104.length) (c := co25) ?_).2.2; exact (by refine pR ?_; exact (Kd.R_mono (Kd.R_far (p := ⟨gb118, 3, none⟩) (Kd.R_far (p := ⟨gb118, 2, none⟩) (Kd.R_far (p := ⟨gb118, 1, none⟩) (Kd.R_far (p := ⟨gb118, 0, none⟩) (Kd.R_types HO106.out BK118.out (by decide)) (fun _ hk => hk.2) (.slice Ao25 t104.length co25)) (fun _ hk => hk.2) (.slice Ao28 t107.length co28)) (fun _ hk => hk.2) (.int .i64 t110)) (fun _ hk => hk.2) (.int .i64 t111)) (fun _ h_ => h_.1)))); (case side2 => exact (Kd.R_reads' HO106.out).2.1); (case side3 => refine (Kd.R_reads' (e := 3) (base := w.heap.size) (ok := fun k_ => (True ∧ some k_ ≠ (.slice Ao29 y115.length co29 : Value).ownBlock)) (n := t107.length) (c := co28) ?_).2.2; exact (by refine pR ?_; exact (Kd.R_mono (Kd.R_far (p := ⟨gb118, 3, none⟩) (Kd.R_far (p := ⟨gb118, 2, none⟩) (Kd.R_far (p := ⟨gb118, 1, none⟩) (Kd.R_far (p := ⟨gb118, 0, none⟩) (Kd.R_types HO109.out BK118.out (by decide)) (fun _ hk => hk.2) (.slice Ao25 t104.length co25)) (fun _ hk => hk.2) (.slice Ao28 t107.length co28)) (fun _ hk => hk.2) (.int .i64 t110)) (fun _ hk => hk.2) (.int .i64 t111)) (fun _ h_ => h_.1)))); (case side4 => exact (Kd.R_reads' HO109.out).2.1); (case side5 => refine (Kd.R_reads' (e := 3) (base := w.heap.size) (ok := fun k_ => some k_ ≠ (.slice Ao28 t107.length co28 : Value).ownBlock) (n := y115.length) (c := co29) ?_).2.2; exact (by refine pR ?_; exact (Kd.R_mono (Kd.R_far (p := ⟨gb118, 3, none⟩) (Kd.R_far (p := ⟨gb118, 2, none⟩) (Kd.R_far (p := ⟨gb118, 1, none⟩) (Kd.R_far (p := ⟨gb118, 0, none⟩) (Kd.R_types HO117.out BK118.out (by decide)) (fun _ hk => hk.2) (.slice Ao25 t104.length co25)) (fun _ hk => hk.2) (.slice Ao28 t107.length co28)) (fun _ hk => hk.2) (.int .i64 t110)) (fun _ hk => hk.2) (.int .i64 t111)) (fun _ h_ => h_.1)))); (case side6 => exact (Kd.R_reads' HO117.out).2.1); rintro e w30 ⟨v120, rfl, ho0, hb⟩; refine ⟨_, rfl, ?_⟩; replace HO106 := Aside0.mk (Kd.R_below (by refine pR ?_; exact (Kd.R_mono (Kd.R_far (p := ⟨gb118, 3, none⟩) (Kd.R_far (p := ⟨gb118, 2, none⟩) (Kd.R_far (p := ⟨gb118, 1, none⟩) (Kd.R_far (p := ⟨gb118, 0, none⟩) (Kd.R_types HO106.out BK118.out (by decide)) (fun _ hk => hk.2) (.slice Ao25 t104.length co25)) (fun _ hk => hk.2) (.slice Ao28 t107.length co28)) (fun _ hk => hk.2) (.int .i64 t110)) (fun _ hk => hk.2) (.int .i64 t111)) (fun _ h_ => h_.1))) hb); have HO121 := Aside0.mk (Kd.R_lower (Kd.R_new' (Kd.R_new' ho0 (Kd.R_lt (by refine pR ?_; exact (Kd.R_mono (Kd.R_far (p := ⟨gb118, 3, none⟩) (Kd.R_far (p := ⟨gb118, 2, none⟩) (Kd.R_far (p := ⟨gb118, 1, none⟩) (Kd.R_far (p := ⟨gb118, 0, none⟩) (Kd.R_types HO109.out BK118.out (by decide)) (fun _ hk => hk.2) (.slice Ao25 t104.length co25)) (fun _ hk => hk.2) (.slice Ao28 t107.length co28)) (fun _ hk => hk.2) (.int .i64 t110)) (fun _ hk => hk.2) (.int .i64 t111)) (fun _ h_ => h_.1))))) (Kd.R_lt (by refine pR ?_; exact (Kd.R_mono (Kd.R_far (p := ⟨gb118, 3, none⟩) (Kd.R_far (p := ⟨gb118, 2, none⟩) (Kd.R_far (p := ⟨gb118, 1, none⟩) (Kd.R_far (p := ⟨gb118, 0, none⟩) (Kd.R_types HO117.out BK118.out (by decide)) (fun _ hk => hk.2) (.slice Ao25 t104.length co25)) (fun _ hk => hk.2) (.slice Ao28 t107.length co28)) (fun _ hk => hk.2) (.int .i64 t110)) (fun _ hk => hk.2) (.int .i64 t111)) (fun _ h_ => h_.1))))) (below_size (pE HB))); replace HO109 := Aside0.mk (Kd.R_elder' (by refine pR ?_; exact (Kd.R_mono (Kd.R_far (p := ⟨gb118, 3, none⟩) (Kd.R_far (p := ⟨gb118, 2, none⟩) (Kd.R_far (p := ⟨gb118, 1, none⟩) (Kd.R_far (p := ⟨gb118, 0, none⟩) (Kd.R_types HO109.out BK118.out (by decide)) (fun _ hk => hk.2) (.slice Ao25 t104.length co25)) (fun _ hk => hk.2) (.slice Ao28 t107.length co28)) (fun _ hk => hk.2) (.int .i64 t110)) (fun _ hk => hk.2) (.int .i64 t111)) (fun _ h_ => h_.1))) (Kd.R_base ho0) hb); replace HO117 := Aside0.mk (Kd.R_elder' (by refine pR ?_; exact (Kd.R_mono (Kd.R_far (p := ⟨gb118, 3, none⟩) (Kd.R_far (p := ⟨gb118, 2, none⟩) (Kd.R_far (p := ⟨gb118, 1, none⟩) (Kd.R_far (p := ⟨gb118, 0, none⟩) (Kd.R_types HO117.out BK118.out (by decide)) (fun _ hk => hk.2) (.slice Ao25 t104.length co25)) (fun _ hk => hk.2) (.slice Ao28 t107.length co28)) (fun _ hk => hk.2) (.int .i64 t110)) (fun _ hk => hk.2) (.int .i64 t111)) (fun _ h_ => h_.1))) (Kd.R_base ho0) hb); replace BK101 := bf BK101 hb; replace BK118 := Aside0.mk (blk_below (g := gb118) (o := .cells #[.slice Ao25 t104.length co25, .slice Ao28 t107.length co28, .int .i64 t110, .int .i64 t111] 25 (0, 0)) (by refine pB ?_; refine blk_put (cs := #[.slice Ao25 t104.length co25, .slice Ao28 t107.length co28, .int .i64 t110, .int .i64 0]) ?_ 3 _ rfl; refine pB ?_; refine blk_put (cs := #[.slice Ao25 t104.length co25, .slice Ao28 t107.length co28, .int .i64 0, .int .i64 0]) ?_ 2 _ rfl; refine pB ?_; refine blk_put (cs := #[.slice Ao25 t104.length co25, .slice none 0 0, .int .i64 0, .int .i64 0]) ?_ 1 _ rfl; refine pB ?_; refine blk_put (cs := #[.slice none 0 0, .slice none 0 0, .int .i64 0, .int .i64 0]) ?_ 0 _ rfl; (with_reducible repeat (first | refine blk_drewN ?_ _ | refine blk_drew ?_ | refine blk_alloc ?_ _)); exact BK118.out) hb); replace HB := bs HB hb; clear hb ho0))
     (try simp only [Act.put, List.setIfInBounds_toArray, List.set_cons_zero, List.set_cons_succ])
     go_cut [45] (fun v45 wc => ∃ (kq : Nat) (x45_17 : Bool), v45 = .bool x45_17 ∧ Aside0 (walkmilllaw05_TenterTights.j1 kq a1 l2 t119 t122 x45_17 l0_0 l0_1 a0_2 a0_3 = some r) ∧ Aside0 (kq ≤ kj3) ∧ Aside0 (Kd.R (Kd.int .i64) 3 wc w.heap.size (fun k_ => some k_ ≠ ((.slice Ao28 t107.length co28) : Value).ownBlock) v120 t119) ∧ Aside0 (Kd.R k43 43 wc w.heap.size (fun _ => True) (.slice Ao25 t104.length co25) t104) ∧ Aside0 (Kd.R (Kd.int .i64) 3 wc w.heap.size (fun k_ => some k_ ≠ (v120 : Value).ownBlock) (.slice Ao28 t107.length co28) t107) ∧ Aside0 (wc.heap[gb101]? = some (.cells #[(.slice A0_0 l0_0.length c0_0), (.slice A0_1 l0_1.length c0_1), .int .i64 a0_2, .int .i64 a0_3] 25 (0, 0))) ∧ Aside0 (wc.heap[gb118]? = some (.cells #[(.slice Ao25 t104.length co25), (.slice Ao28 t107.length co28), .int .i64 t110, .int .i64 t111] 25 (0, 0))) ∧ Aside0 (Below w.heap.size w wc))
     case first =>
      have H := HC18.out
      clear HC18
      obtain ⟨t123, A31, H⟩ := bi H
      by_cases c32 : t123 = true
      ·subst c32
       rw [if_pos rfl] at H
       obtain ⟨t124, A33, H⟩ := bi H
       have H' := Aside0.mk H
       clear H
       have hnb34 := NB118_101.out
       have hnc34 := NB101_118.out
       obtain ⟨hcz35_0, hcz35_1, hcz35_2, hcz35_3, hfz35_0, hfz35_1, hfz35_2, hfz35_3⟩ := cf4 BK118
       obtain ⟨hcz36_0, hcz36_1, hcz36_2, hcz36_3, hfz36_0, hfz36_1, hfz36_2, hfz36_3⟩ := cf4 BK101
       go_wp2_with (first | ((with_reducible refine gc 18 rfl ?_); refine gL 38 Tryz.func18 #[.agg #[.slice Ao25 t104.length co25, .slice Ao28 t107.length co28, .int .i64 t110, .int .i64 t111], .agg #[.slice A0_0 l0_0.length c0_0, .slice A0_1 l0_1.length c0_1, .int .i64 a0_2, .int .i64 a0_3]] ?_; (with_reducible refine (walkmillref05_Same.calls kj3 _ _ t104 _ _ t107 t110 t111 _ _ l0_0 _ _ l0_1 a0_2 a0_3 true _ ?side1 ?side2 ?side3 ?side4 ?side5 ?side6 ?side7 ?side8 A31.out).mono ?_); (case side1 => exact pC (Kd.R_reads' HO106.out).2.2); (case side2 => exact (Kd.R_reads' HO106.out).2.1); (case side3 => exact pC (Kd.R_reads' HO109.out).2.2); (case side4 => exact (Kd.R_reads' HO109.out).2.1); (case side5 => exact pC (Kd.C_below HR0_0.out HB.out)); (case side6 => exact HC0_0.out); (case side7 => exact pC (Kd.C_below HR0_1.out HB.out)); (case side8 => exact HC0_1.out); rintro e w37 ⟨rfl, hb⟩; refine ⟨_, rfl, ?_⟩; replace HO106 := rb HO106 hb; replace HO109 := rb HO109 hb; replace HO117 := rb HO117 hb; replace HO121 := rb HO121 hb; replace BK101 := bb BK101 hb; replace BK118 := bb BK118 hb; replace HB := bs HB hb; clear hb) | (go_at_call 31; (with_reducible refine (walkmillref05_Ints.calls kj3 _ _ y115 _ _ l2 t124 _ ?side1 ?side2 ?side3 ?side4 A33.out).mono ?_); (case side1 => exact pC (Kd.R_reads' HO117.out).2.2); (case side2 => exact (Kd.R_reads' HO117.out).2.1); (case side3 => exact pC (Kd.C_below HR2.out HB.out)); (case side4 => exact HC2.out); rintro e w' ⟨rfl, ⟨nd, rfl⟩⟩))
       go_meet
       case rel => exact ⟨_, (!t124), (by first | rfl | (simp; done) | (simp [*]; done)), H', ⟨by have := HJ3.out; first | omega | exact Nat.le_refl _⟩, ⟨by (with_reducible repeat (first | apply Kd.R_alloc | apply Kd.R_drewN | apply Kd.R_drew)); exact Kd.R_mono HO121.out (fun _ hk => hk.1.2)⟩, ⟨by (with_reducible repeat (first | apply Kd.R_alloc | apply Kd.R_drewN | apply Kd.R_drew)); exact HO106.out⟩, ⟨by (with_reducible repeat (first | apply Kd.R_alloc | apply Kd.R_drewN | apply Kd.R_drew)); exact Kd.R_mono HO109.out (fun _ hk => hk.2)⟩, ⟨by (with_reducible repeat (first | refine blk_drewN ?_ _ | refine blk_drew ?_ | refine blk_alloc ?_ _)); exact BK101.out⟩, ⟨by (with_reducible repeat (first | refine blk_drewN ?_ _ | refine blk_drew ?_ | refine blk_alloc ?_ _)); exact BK118.out⟩, ⟨pE HB⟩⟩
      ·replace c32 := Bool.eq_false_iff.mpr c32
       subst c32
       rw [if_neg (show ¬ (false = true) by decide)] at H
       exact (walkmilllaw05_TenterTights.dead_j1 _ _ _ _ _ _ _ _ _ _ H HRT.out).elim
     case rest =>
      clear HC18
      try clear c1
      try clear c2
      try clear p2
      try clear c3
      try clear c7
      try clear c12
      try clear c13
      try clear c14
      try clear c16
      try clear c18
      try clear c26
      try clear c32
      try clear c34
      try clear hcz10_0
      try clear hcz10_1
      try clear hcz10_2
      try clear hcz10_3
      try clear hcz19_0
      try clear hcz19_1
      try clear hcz19_2
      try clear hcz19_3
      try clear hcz27_0
      try clear hcz27_1
      try clear hcz27_2
      try clear hcz27_3
      try clear hcz35_0
      try clear hcz35_1
      try clear hcz35_2
      try clear hcz35_3
      try clear hcz36_0
      try clear hcz36_1
      try clear hcz36_2
      try clear hcz36_3
      try clear hcz8_0
      try clear hcz8_1
      try clear hcz8_2
      try clear hcz8_3
      try clear hfz10_0
      try clear hfz10_1
      try clear hfz10_2
      try clear hfz10_3
      try clear hfz19_0
      try clear hfz19_1
      try clear hfz19_2
      try clear hfz19_3
      try clear hfz27_0
      try clear hfz27_1
      try clear hfz27_2
      try clear hfz27_3
      try clear hfz35_0
      try clear hfz35_1
      try clear hfz35_2
      try clear hfz35_3
      try clear hfz36_0
      try clear hfz36_1
      try clear hfz36_2
      try clear hfz36_3
      try clear hfz8_0
      try clear hfz8_1
      try clear hfz8_2
      try clear hfz8_3
      try clear p2
      obtain ⟨kq, x45_17, rfl, HA, HJ17, HO_9, HO_119000, HO_119001, BK101, BK118, HB⟩ := hcut
      cases kq with
      | zero => exact absurd HA.out (by simp [walkmilllaw05_TenterTights.j1])
      | succ kj17 =>
       have H := HA.out
       clear HA
       simp only [walkmilllaw05_TenterTights.j1] at H
       by_cases c38 : x45_17 = true
       ·subst c38
        rw [if_pos rfl] at H
        exact absurd ((Option.some.inj H).trans HRT.out) (by simp)
       ·replace c38 := Bool.eq_false_iff.mpr c38
        subst c38
        rw [if_neg (show ¬ (false = true) by decide)] at H
        obtain ⟨t125, A39, H⟩ := bi H
        have HC40 := Aside0.mk H
        clear H
        have hnb41 := NB101_118.out
        have hnc41 := NB118_101.out
        obtain ⟨hcz42_0, hcz42_1, hcz42_2, hcz42_3, hfz42_0, hfz42_1, hfz42_2, hfz42_3⟩ := cf4 BK101
        go_upto_if 49 with (first | ((with_reducible refine gc 17 rfl ?_); refine gL 47 Tryz.func17 #[.agg #[.slice A0_0 l0_0.length c0_0, .slice A0_1 l0_1.length c0_1, .int .i64 a0_2, .int .i64 a0_3]] ?_; (with_reducible refine (walkmillref05_Check.calls kj17 _ _ l0_0 _ _ l0_1 a0_2 a0_3 t125 _ ?side1 ?side2 ?side3 ?side4 A39.out).mono ?_); (case side1 => exact pC (Kd.C_below HR0_0.out HB.out)); (case side2 => exact HC0_0.out); (case side3 => exact pC (Kd.C_below HR0_1.out HB.out)); (case side4 => exact HC0_1.out); rintro e w43 ⟨rfl, hb⟩; refine ⟨_, rfl, ?_⟩; replace HO_9 := rb HO_9 hb; replace HO_119000 := rb HO_119000 hb; replace HO_119001 := rb HO_119001 hb; replace BK101 := bb BK101 hb; replace BK118 := bb BK118 hb; replace HB := bs HB hb; clear hb))
        (try simp only [Act.put, List.setIfInBounds_toArray, List.set_cons_zero, List.set_cons_succ])
        go_cut [11] (fun v11 wc => ∃ (kq : Nat) (x11_39 : Int), v11 = .int .i64 x11_39 ∧ Aside0 (walkmilllaw05_TenterTights.j4 kq a1 l2 t119 t122 x11_39 l0_0 l0_1 a0_2 a0_3 = some r) ∧ Aside0 (kq ≤ kj17) ∧ Aside0 (Kd.R (Kd.int .i64) 3 wc w.heap.size (fun k_ => some k_ ≠ ((.slice Ao28 t107.length co28) : Value).ownBlock) v120 t119) ∧ Aside0 (Kd.R k43 43 wc w.heap.size (fun _ => True) (.slice Ao25 t104.length co25) t104) ∧ Aside0 (Kd.R (Kd.int .i64) 3 wc w.heap.size (fun k_ => some k_ ≠ (v120 : Value).ownBlock) (.slice Ao28 t107.length co28) t107) ∧ Aside0 (wc.heap[gb101]? = some (.cells #[(.slice A0_0 l0_0.length c0_0), (.slice A0_1 l0_1.length c0_1), .int .i64 a0_2, .int .i64 a0_3] 25 (0, 0))) ∧ Aside0 (wc.heap[gb118]? = some (.cells #[(.slice Ao25 t104.length co25), (.slice Ao28 t107.length co28), .int .i64 t110, .int .i64 t111] 25 (0, 0))) ∧ Aside0 (Below w.heap.size w wc))
        case first =>
         have H := HC40.out
         clear HC40
         by_cases c44 : t125 = 0
         ·rw [if_pos c44] at H
          have c44b0 : (t125 == 0) = true := beq_iff_eq.mpr c44
          have c44b1 : (t125 != 0) = false := bne_eq_false_iff_eq.mpr c44
          clear c44
          (first | rw [c44b0] | (simp only [i64_w, i32_w]; rw [c44b0]) | skip)
          have HC45 := Aside0.mk H
          clear H
          go_upto_region 9 with (fail)
          go_cut [12] (fun v12 wc => ∃ (kq : Nat) (x12_44 : Bool), v12 = .bool x12_44 ∧ Aside0 (walkmilllaw05_TenterTights.j2 kq a1 l2 t119 t122 t125 x12_44 l0_0 l0_1 a0_2 a0_3 = some r) ∧ Aside0 (kq ≤ kj17) ∧ Aside0 (Kd.R (Kd.int .i64) 3 wc w.heap.size (fun k_ => some k_ ≠ ((.slice Ao28 t107.length co28) : Value).ownBlock) v120 t119) ∧ Aside0 (Kd.R k43 43 wc w.heap.size (fun _ => True) (.slice Ao25 t104.length co25) t104) ∧ Aside0 (Kd.R (Kd.int .i64) 3 wc w.heap.size (fun k_ => some k_ ≠ (v120 : Value).ownBlock) (.slice Ao28 t107.length co28) t107) ∧ Aside0 (wc.heap[gb101]? = some (.cells #[(.slice A0_0 l0_0.length c0_0), (.slice A0_1 l0_1.length c0_1), .int .i64 a0_2, .int .i64 a0_3] 25 (0, 0))) ∧ Aside0 (wc.heap[gb118]? = some (.cells #[(.slice Ao25 t104.length co25), (.slice Ao28 t107.length co28), .int .i64 t110, .int .i64 t111] 25 (0, 0))) ∧ Aside0 (Below w.heap.size w wc))
          case first =>
           have H := HC45.out
           clear HC45
           obtain ⟨t126, A46, H⟩ := bi H
           by_cases c47 : t126 = true
           ·subst c47
            rw [if_pos rfl] at H
            have H' := Aside0.mk H
            clear H
            have hnb48 := NB101_118.out
            have hnc48 := NB118_101.out
            obtain ⟨hcz49_0, hcz49_1, hcz49_2, hcz49_3, hfz49_0, hfz49_1, hfz49_2, hfz49_3⟩ := cf4 BK101
            go_wp2_with (first | ((with_reducible refine gc 22 rfl ?_); refine gL 55 Tryz.func22 #[.int .i64 a1, .int .i64 0, .int .i64 (wrap64 ((l0_1.length : Int) - 1))] ?_; (with_reducible refine (walkmillref05_In.calls a1 0 (wrap64 ((l0_1.length : Int) - 1)) true _ A46.out).mono ?_); rintro e w' ⟨rfl, ⟨nd, rfl⟩⟩; refine ⟨_, rfl, ?_⟩))
            go_meet
            case rel => exact ⟨_, (decide ((l2.length : Int) > 0)), (by first | rfl | (simp; done) | (simp [*]; done)), H', ⟨by have := HJ3.out; have := HJ17.out; first | omega | exact Nat.le_refl _⟩, ⟨by (with_reducible repeat (first | apply Kd.R_alloc | apply Kd.R_drewN | apply Kd.R_drew)); exact HO_9.out⟩, ⟨by (with_reducible repeat (first | apply Kd.R_alloc | apply Kd.R_drewN | apply Kd.R_drew)); exact HO_119000.out⟩, ⟨by (with_reducible repeat (first | apply Kd.R_alloc | apply Kd.R_drewN | apply Kd.R_drew)); exact HO_119001.out⟩, ⟨by (with_reducible repeat (first | refine blk_drewN ?_ _ | refine blk_drew ?_ | refine blk_alloc ?_ _)); exact BK101.out⟩, ⟨by (with_reducible repeat (first | refine blk_drewN ?_ _ | refine blk_drew ?_ | refine blk_alloc ?_ _)); exact BK118.out⟩, ⟨pE HB⟩⟩
           ·replace c47 := Bool.eq_false_iff.mpr c47
            subst c47
            rw [if_neg (show ¬ (false = true) by decide)] at H
            have H' := Aside0.mk H
            clear H
            have hnb50 := NB101_118.out
            have hnc50 := NB118_101.out
            obtain ⟨hcz51_0, hcz51_1, hcz51_2, hcz51_3, hfz51_0, hfz51_1, hfz51_2, hfz51_3⟩ := cf4 BK101
            go_wp2_with (first | ((with_reducible refine gc 22 rfl ?_); refine gL 55 Tryz.func22 #[.int .i64 a1, .int .i64 0, .int .i64 (wrap64 ((l0_1.length : Int) - 1))] ?_; (with_reducible refine (walkmillref05_In.calls a1 0 (wrap64 ((l0_1.length : Int) - 1)) false _ A46.out).mono ?_); rintro e w' ⟨rfl, ⟨nd, rfl⟩⟩; refine ⟨_, rfl, ?_⟩))
            go_meet
            case rel => exact ⟨_, (false), (by first | rfl | (simp; done) | (simp [*]; done)), H', ⟨by have := HJ3.out; have := HJ17.out; first | omega | exact Nat.le_refl _⟩, ⟨by (with_reducible repeat (first | apply Kd.R_alloc | apply Kd.R_drewN | apply Kd.R_drew)); exact HO_9.out⟩, ⟨by (with_reducible repeat (first | apply Kd.R_alloc | apply Kd.R_drewN | apply Kd.R_drew)); exact HO_119000.out⟩, ⟨by (with_reducible repeat (first | apply Kd.R_alloc | apply Kd.R_drewN | apply Kd.R_drew)); exact HO_119001.out⟩, ⟨by (with_reducible repeat (first | refine blk_drewN ?_ _ | refine blk_drew ?_ | refine blk_alloc ?_ _)); exact BK101.out⟩, ⟨by (with_reducible repeat (first | refine blk_drewN ?_ _ | refine blk_drew ?_ | refine blk_alloc ?_ _)); exact BK118.out⟩, ⟨pE HB⟩⟩
          case rest =>
           clear HC45
           try clear c1
           try clear c2
           try clear p2
           try clear c3
           try clear c4
           try clear c5
           try clear p6
           try clear c7
           try clear c12
           try clear c13
           try clear c14
           try clear c16
           try clear c17
           try clear c18
           try clear c22
           try clear c26
           try clear c32
           try clear c34
           try clear c38
           try clear c41
           try clear c44
           try clear c44b0
           try clear c44b1
           try clear c47
           try clear c48
           try clear c50
           try clear hcz10_0
           try clear hcz10_1
           try clear hcz10_2
           try clear hcz10_3
           try clear hcz19_0
           try clear hcz19_1
           try clear hcz19_2
           try clear hcz19_3
           try clear hcz27_0
           try clear hcz27_1
           try clear hcz27_2
           try clear hcz27_3
           try clear hcz35_0
           try clear hcz35_1
           try clear hcz35_2
           try clear hcz35_3
           try clear hcz36_0
           try clear hcz36_1
           try clear hcz36_2
           try clear hcz36_3
           try clear hcz42_0
           try clear hcz42_1
           try clear hcz42_2
           try clear hcz42_3
           try clear hcz49_0
           try clear hcz49_1
           try clear hcz49_2
           try clear hcz49_3
           try clear hcz51_0
           try clear hcz51_1
           try clear hcz51_2
           try clear hcz51_3
           try clear hcz8_0
           try clear hcz8_1
           try clear hcz8_2
           try clear hcz8_3
           try clear hfz10_0
           try clear hfz10_1
           try clear hfz10_2
           try clear hfz10_3
           try clear hfz19_0
           try clear hfz19_1
           try clear hfz19_2
           try clear hfz19_3
           try clear hfz27_0
           try clear hfz27_1
           try clear hfz27_2
           try clear hfz27_3
           try clear hfz35_0
           try clear hfz35_1
           try clear hfz35_2
           try clear hfz35_3
           try clear hfz36_0
           try clear hfz36_1
           try clear hfz36_2
           try clear hfz36_3
           try clear hfz42_0
           try clear hfz42_1
           try clear hfz42_2
           try clear hfz42_3
           try clear hfz49_0
           try clear hfz49_1
           try clear hfz49_2
           try clear hfz49_3
           try clear hfz51_0
           try clear hfz51_1
           try clear hfz51_2
           try clear hfz51_3
           try clear hfz8_0
           try clear hfz8_1
           try clear hfz8_2
           try clear hfz8_3
           try clear p2
           obtain ⟨kq, x12_44, rfl, HA, HJ44, HO_9, HO_119000, HO_119001, BK101, BK118, HB⟩ := hcut
           cases kq with
           | zero => exact absurd HA.out (by simp [walkmilllaw05_TenterTights.j2])
           | succ kj44 =>
            have H := HA.out
            clear HA
            simp only [walkmilllaw05_TenterTights.j2] at H
            have H' := Aside0.mk H
            clear H
            go_wp2
            go_loopg [12, 13] kj44 (fun kq v12 v13 w' => ∃ (x12_4 : Bool) (x13_4 : Int), v12 = .bool x12_4 ∧ v13 = .int .i64 x13_4 ∧ Aside0 (walkmilllaw05_TenterTights.l0 kq a1 l2 t119 t122 t125 x12_4 x13_4 l0_0 l0_1 a0_2 a0_3 = some r) ∧ Aside0 (kq ≤ kj44) ∧ Aside0 (Kd.R (Kd.int .i64) 3 w' w.heap.size (fun k_ => some k_ ≠ ((.slice Ao28 t107.length co28) : Value).ownBlock) v120 t119) ∧ Aside0 (Kd.R k43 43 w' w.heap.size (fun _ => True) (.slice Ao25 t104.length co25) t104) ∧ Aside0 (Kd.R (Kd.int .i64) 3 w' w.heap.size (fun k_ => some k_ ≠ (v120 : Value).ownBlock) (.slice Ao28 t107.length co28) t107) ∧ Aside0 (w'.heap[gb101]? = some (.cells #[(.slice A0_0 l0_0.length c0_0), (.slice A0_1 l0_1.length c0_1), .int .i64 a0_2, .int .i64 a0_3] 25 (0, 0))) ∧ Aside0 (w'.heap[gb118]? = some (.cells #[(.slice Ao25 t104.length co25), (.slice Ao28 t107.length co28), .int .i64 t110, .int .i64 t111] 25 (0, 0))) ∧ Aside0 (Below w.heap.size w w'))
            case atStart => exact ⟨(x12_44), (0), (by first | rfl | (simp; done) | (simp [*]; done)), (by first | rfl | (simp; done) | (simp [*]; done)), H', ⟨Nat.le_refl _⟩, ⟨by (with_reducible repeat (first | apply Kd.R_alloc | apply Kd.R_drewN | apply Kd.R_drew)); exact HO_9.out⟩, ⟨by (with_reducible repeat (first | apply Kd.R_alloc | apply Kd.R_drewN | apply Kd.R_drew)); exact HO_119000.out⟩, ⟨by (with_reducible repeat (first | apply Kd.R_alloc | apply Kd.R_drewN | apply Kd.R_drew)); exact HO_119001.out⟩, ⟨by (with_reducible repeat (first | refine blk_drewN ?_ _ | refine blk_drew ?_ | refine blk_alloc ?_ _)); exact BK101.out⟩, ⟨by (with_reducible repeat (first | refine blk_drewN ?_ _ | refine blk_drew ?_ | refine blk_alloc ?_ _)); exact BK118.out⟩, ⟨pE HB⟩⟩
            case round =>
             clear H'
             try clear c1
             try clear c2
             try clear p2
             try clear c3
             try clear c4
             try clear c5
             try clear p6
             try clear c7
             try clear c12
             try clear c13
             try clear c14
             try clear c16
             try clear c17
             try clear c18
             try clear c22
             try clear c26
             try clear c32
             try clear c34
             try clear c38
             try clear c41
             try clear c44
             try clear c44b0
             try clear c44b1
             try clear c47
             try clear c48
             try clear c50
             try clear hcz10_0
             try clear hcz10_1
             try clear hcz10_2
             try clear hcz10_3
             try clear hcz19_0
             try clear hcz19_1
             try clear hcz19_2
             try clear hcz19_3
             try clear hcz27_0
             try clear hcz27_1
             try clear hcz27_2
             try clear hcz27_3
             try clear hcz35_0
             try clear hcz35_1
             try clear hcz35_2
             try clear hcz35_3
             try clear hcz36_0
             try clear hcz36_1
             try clear hcz36_2
             try clear hcz36_3
             try clear hcz42_0
             try clear hcz42_1
             try clear hcz42_2
             try clear hcz42_3
             try clear hcz49_0
             try clear hcz49_1
             try clear hcz49_2
             try clear hcz49_3
             try clear hcz51_0
             try clear hcz51_1
             try clear hcz51_2
             try clear hcz51_3
             try clear hcz8_0
             try clear hcz8_1
             try clear hcz8_2
             try clear hcz8_3
             try clear hfz10_0
             try clear hfz10_1
             try clear hfz10_2
             try clear hfz10_3
             try clear hfz19_0
             try clear hfz19_1
             try clear hfz19_2
             try clear hfz19_3
             try clear hfz27_0
             try clear hfz27_1
             try clear hfz27_2
             try clear hfz27_3
             try clear hfz35_0
             try clear hfz35_1
             try clear hfz35_2
             try clear hfz35_3
             try clear hfz36_0
             try clear hfz36_1
             try clear hfz36_2
             try clear hfz36_3
             try clear hfz42_0
             try clear hfz42_1
             try clear hfz42_2
             try clear hfz42_3
             try clear hfz49_0
             try clear hfz49_1
             try clear hfz49_2
             try clear hfz49_3
             try clear hfz51_0
             try clear hfz51_1
             try clear hfz51_2
             try clear hfz51_3
             try clear hfz8_0
             try clear hfz8_1
             try clear hfz8_2
             try clear hfz8_3
             try clear p2
             try clear p6
             obtain ⟨x12_4, x13_4, rfl, rfl, HA, HK4, HO_9, HO_119000, HO_119001, BK101, BK118, HB⟩ := hrel
             cases gk with
             | zero => exact absurd HA.out (by simp [walkmilllaw05_TenterTights.l0])
             | succ k4 =>
              have H := HA.out
              clear HA
              simp only [walkmilllaw05_TenterTights.l0] at H
              by_cases c52 : x13_4 < (l2.length : Int)
              ·rw [if_pos c52] at H
               have c52b0 : decide (x13_4 < (l2.length : Int)) = true := decide_eq_true c52
               clear c52
               by_cases c53 : x12_4 = true
               ·subst c53
                rw [if_pos rfl] at H
                by_cases c54 : 0 ≤ x13_4
                ·rw [if_pos c54] at H
                 have c54b0 : decide (0 ≤ x13_4) = true := decide_eq_true c54
                 clear c54
                 obtain ⟨t128, A55, H⟩ := bi H
                 by_cases c56 : t128 = true
                 ·subst c56
                  rw [if_pos rfl] at H
                  by_cases c57 : x13_4 = 0
                  ·rw [if_pos c57] at H
                   have c57b0 : (x13_4 == 0) = true := beq_iff_eq.mpr c57
                   have c57b1 : (x13_4 != 0) = false := bne_eq_false_iff_eq.mpr c57
                   clear c57
                   have H' := Aside0.mk H
                   clear H
                   try go_wp2
                   replace HO_9 := Aside0.mk (Kd.R_drew HO_9.out)
                   replace HO_119000 := Aside0.mk (Kd.R_drew HO_119000.out)
                   replace HO_119001 := Aside0.mk (Kd.R_drew HO_119001.out)
                   replace BK101 := Aside0.mk (blk_drew BK101.out)
                   replace BK118 := Aside0.mk (blk_drew BK118.out)
                   replace HB := Aside0.mk (below_drew1 HB.out)
                   have p127 : 0 ≤ (x13_4 : Int) := dT
                   have q127 : x13_4 < (l2.length : Int) := dT
                   obtain ⟨ad127, e127, hx127_0⟩ := Kd.at_int HR2.out x13_4 p127 q127
                   have hw127_0 := hx127_0
                   cases e127
                   replace hx127_0 := cut_ HB hx127_0
                   replace p127 := eq_true p127
                   replace q127 := eq_true q127
                   refine start_ (n := 26) (S := fun w' => w'.cell? ⟨gb101, 0, none⟩ = some (.slice A0_0 l0_0.length c0_0) ∧ w'.cell? ⟨gb101, 1, none⟩ = some (.slice A0_1 l0_1.length c0_1) ∧ w'.cell? ⟨gb101, 2, none⟩ = some (.int .i64 a0_2) ∧ w'.cell? ⟨gb101, 3, none⟩ = some (.int .i64 a0_3) ∧ w'.cell? (ad127.add (x13_4).toNat) = some (.int .i64 (rd l2 x13_4))) (ds := []) #[false, false, false, false, false, false, false, false, false, false, false, false, false, false, false, false, false, false, false, false, false, false, false, false, false, false] (by kernel_rfl) rfl rfl ⟨(blk_cell BK101.out 0).trans rfl, (blk_cell BK101.out 1).trans rfl, (blk_cell BK101.out 2).trans rfl, (blk_cell BK101.out 3).trans rfl, ((HB.out.cell (World.block_lt_of_cell? w _ hw127_0)).trans hw127_0)⟩ (fun hHeld => ?_); refine with_tabW walkmilllaw05_TenterTights.tab13 walkmilllaw05_TenterTights.bits13 (fun HT_ HW_ => ?_)
                   generalize wr.drew = w58 at HO_9 HO_119000 HO_119001 BK101 BK118 HB hx127_0 hHeld ⊢
                   refine pu 0 67 ?_
                   refine pu 1 68 ?_
                   refine pu 3 70 ?_
                   refine pu 4 71 ?_
                   refine pu 5 72 ?_
                   refine tk 2 69 hHeld ?_
                   refine tk 6 73 hHeld ?_
                   refine on 7 (fun K hK => ?_)
                   refine gO Tryz.func21 #[.agg #[.slice A0_0 l0_0.length c0_0, .slice A0_1 l0_1.length c0_1, .int .i64 a0_2, .int .i64 a0_3], .int .i64 (rd l2 x13_4)] ?_
                   with_reducible refine (walkmilllaw05_cloth.calls _ _ l0_0 _ _ l0_1 a0_2 a0_3 (rd l2 x13_4) true _ ?side1 ?side2 ?side3 ?side4 A55.out).mono ?_
                   (case side1 => exact pC (Kd.C_below HR0_0.out HB.out))
                   (case side2 => exact HC0_0.out)
                   (case side3 => exact pC (Kd.C_below HR0_1.out HB.out))
                   (case side4 => exact HC0_1.out)
                   rintro e w59 ⟨rfl, hb⟩
                   refine ⟨_, rfl, ?_⟩
                   replace HO_9 := rb HO_9 hb
                   replace HO_119000 := rb HO_119000 hb
                   replace HO_119001 := rb HO_119001 hb
                   replace BK101 := bb BK101 hb
                   replace BK118 := bb BK118 hb
                   replace HB := bs HB hb
                   (try clear hb)
                   (try clear hb2)
                   (try clear hk)
                   (try clear hi)
                   refine hK.out _ _ ⟨(blk_cell BK101.out 0).trans rfl, (blk_cell BK101.out 1).trans rfl, (blk_cell BK101.out 2).trans rfl, (blk_cell BK101.out 3).trans rfl, ((HB.out.cell (World.block_lt_of_cell? w _ hw127_0)).trans hw127_0)⟩ (fun hHeld => ?_)
                   clear hK K
                   refine norm_ (a' := ?_) ?_ ?_
                   rotate_left
                   ·show Act.put _ (some 74) _ = _
                    simp only [Act.put, List.setIfInBounds_toArray, List.set_cons_zero, List.set_cons_succ, i64_w, i32_w]
                    rfl
                   refine pu 8 75 ?_
                   refine pu 9 76 ?_
                   refine pu 10 77 ?_
                   refine pu 11 78 ?_
                   refine pu 12 79 ?_
                   refine pd 13 80 ?_
                   refine pd 14 81 ?_
                   refine pd 15 82 ?_
                   refine pd 16 83 ?_
                   refine pd 17 84 ?_
                   refine pd 18 85 ?_
                   refine pd 19 86 ?_
                   refine pd 20 87 ?_
                   refine pd 21 88 ?_
                   refine pd 22 89 ?_
                   refine pu 23 90 ?_
                   refine pu 24 91 ?_
                   refine pu 25 12 ?_
                   refine done_ (done_of HT_.out (by kernel_rfl)) ?_
                   try go_wp2
                   go_roundg k4
                   case measure => have := HJ3.out; have := HJ17.out; have := HJ44.out; have := HK4.out; omega
                   case rel => exact ⟨(true), (wrap64 (x13_4 + 1)), (by first | rfl | (simp; done) | (simp [*]; done)), (by first | rfl | (simp; done) | (simp [*]; done)), H', ⟨by have := HJ3.out; have := HJ17.out; have := HJ44.out; have := HK4.out; omega⟩, ⟨by (with_reducible repeat (first | apply Kd.R_alloc | apply Kd.R_drewN | apply Kd.R_drew)); exact HO_9.out⟩, ⟨by (with_reducible repeat (first | apply Kd.R_alloc | apply Kd.R_drewN | apply Kd.R_drew)); exact HO_119000.out⟩, ⟨by (with_reducible repeat (first | apply Kd.R_alloc | apply Kd.R_drewN | apply Kd.R_drew)); exact HO_119001.out⟩, ⟨by (with_reducible repeat (first | refine blk_drewN ?_ _ | refine blk_drew ?_ | refine blk_alloc ?_ _)); exact BK101.out⟩, ⟨by (with_reducible repeat (first | refine blk_drewN ?_ _ | refine blk_drew ?_ | refine blk_alloc ?_ _)); exact BK118.out⟩, ⟨pE HB⟩⟩
                  ·rw [if_neg c57] at H
                   have c57b0 : (x13_4 == 0) = false := beq_eq_false_iff_ne.mpr c57
                   have c57b1 : (x13_4 != 0) = true := bne_iff_ne.mpr c57
                   obtain ⟨ji60, hji60⟩ : ∃ j_ : Int, (wrap64 (x13_4 - 1)) = j_ := ⟨_, rfl⟩
                   replace H : (if 0 ≤ (ji60) then (if (ji60) < (l2.length : Int) then (walkmilllaw05_TenterTights.l0 k4 a1 l2 t119 t122 t125 (decide ((rd l2 x13_4) > (rd l2 (ji60)))) (wrap64 (x13_4 + 1)) l0_0 l0_1 a0_2 a0_3) else (none)) else (none)) = some r := by first | (rw [hji60] at H; exact H) | (simp only [hji60] at H ⊢; exact H)
                   (try rw [hji60] at A55)
                   have hji60w : (IntKind.i64.wrap (x13_4 - 1)) = ji60 := (i64_w _).trans hji60
                   by_cases c61 : 0 ≤ (ji60)
                   ·rw [if_pos c61] at H
                    have c61b0 : decide (0 ≤ (ji60)) = true := decide_eq_true c61
                    clear c61
                    by_cases c62 : (ji60) < (l2.length : Int)
                    ·rw [if_pos c62] at H
                     have c62b0 : decide ((ji60) < (l2.length : Int)) = true := decide_eq_true c62
                     clear c62
                     have H' := Aside0.mk H
                     clear H
                     try go_wp2
                     replace HO_9 := Aside0.mk (Kd.R_drew HO_9.out)
                     replace HO_119000 := Aside0.mk (Kd.R_drew HO_119000.out)
                     replace HO_119001 := Aside0.mk (Kd.R_drew HO_119001.out)
                     replace BK101 := Aside0.mk (blk_drew BK101.out)
                     replace BK118 := Aside0.mk (blk_drew BK118.out)
                     replace HB := Aside0.mk (below_drew1 HB.out)
                     have p127 : 0 ≤ (x13_4 : Int) := dT
                     have q127 : x13_4 < (l2.length : Int) := dT
                     obtain ⟨ad127, e127, hx127_0⟩ := Kd.at_int HR2.out x13_4 p127 q127
                     have hw127_0 := hx127_0
                     cases e127
                     replace hx127_0 := cut_ HB hx127_0
                     replace p127 := eq_true p127
                     replace q127 := eq_true q127
                     have p129 : 0 ≤ (x13_4 : Int) := dT
                     have q129 : x13_4 < (l2.length : Int) := dT
                     obtain ⟨ad129, e129, hx129_0⟩ := Kd.at_int HR2.out x13_4 p129 q129
                     have hw129_0 := hx129_0
                     obtain rfl : ad127 = ad129 := (by injection e129)
                     replace hx129_0 := cut_ HB hx129_0
                     replace p129 := eq_true p129
                     replace q129 := eq_true q129
                     have p130 : 0 ≤ ((ji60) : Int) := dT
                     have q130 : (ji60) < (l2.length : Int) := dT
                     obtain ⟨ad130, e130, hx130_0⟩ := Kd.at_int HR2.out (ji60) p130 q130
                     have hw130_0 := hx130_0
                     obtain rfl : ad127 = ad130 := (by injection e130)
                     replace hx130_0 := cut_ HB hx130_0
                     replace p130 := eq_true p130
                     replace q130 := eq_true q130
                     refine start_ (n := 26) (S := fun w' => w'.cell? ⟨gb101, 0, none⟩ = some (.slice A0_0 l0_0.length c0_0) ∧ w'.cell? ⟨gb101, 1, none⟩ = some (.slice A0_1 l0_1.length c0_1) ∧ w'.cell? ⟨gb101, 2, none⟩ = some (.int .i64 a0_2) ∧ w'.cell? ⟨gb101, 3, none⟩ = some (.int .i64 a0_3) ∧ w'.cell? (ad127.add (x13_4).toNat) = some (.int .i64 (rd l2 x13_4)) ∧ w'.cell? (ad127.add (x13_4).toNat) = some (.int .i64 (rd l2 x13_4)) ∧ w'.cell? (ad127.add ((ji60)).toNat) = some (.int .i64 (rd l2 (ji60)))) (ds := []) #[false, false, false, false, false, false, false, false, false, false, false, false, false, false, false, false, false, false, false, false, false, false, false, false, false, false] (by kernel_rfl) rfl rfl ⟨(blk_cell BK101.out 0).trans rfl, (blk_cell BK101.out 1).trans rfl, (blk_cell BK101.out 2).trans rfl, (blk_cell BK101.out 3).trans rfl, ((HB.out.cell (World.block_lt_of_cell? w _ hw127_0)).trans hw127_0), ((HB.out.cell (World.block_lt_of_cell? w _ hw129_0)).trans hw129_0), ((HB.out.cell (World.block_lt_of_cell? w _ hw130_0)).trans hw130_0)⟩ (fun hHeld => ?_); refine with_tabW walkmilllaw05_TenterTights.tab13 walkmilllaw05_TenterTights.bits13 (fun HT_ HW_ => ?_)
                     generalize wr.drew = w63 at HO_9 HO_119000 HO_119001 BK101 BK118 HB hx127_0 hx129_0 hx130_0 hHeld ⊢
                     refine pu 0 67 ?_
                     refine pu 1 68 ?_
                     refine pu 3 70 ?_
                     refine pu 4 71 ?_
                     refine pu 5 72 ?_
                     refine tk 2 69 hHeld ?_
                     refine tk 6 73 hHeld ?_
                     refine on 7 (fun K hK => ?_)
                     refine gO Tryz.func21 #[.agg #[.slice A0_0 l0_0.length c0_0, .slice A0_1 l0_1.length c0_1, .int .i64 a0_2, .int .i64 a0_3], .int .i64 (rd l2 x13_4)] ?_
                     with_reducible refine (walkmilllaw05_cloth.calls _ _ l0_0 _ _ l0_1 a0_2 a0_3 (rd l2 x13_4) true _ ?side1 ?side2 ?side3 ?side4 A55.out).mono ?_
                     (case side1 => exact pC (Kd.C_below HR0_0.out HB.out))
                     (case side2 => exact HC0_0.out)
                     (case side3 => exact pC (Kd.C_below HR0_1.out HB.out))
                     (case side4 => exact HC0_1.out)
                     rintro e w64 ⟨rfl, hb⟩
                     refine ⟨_, rfl, ?_⟩
                     replace HO_9 := rb HO_9 hb
                     replace HO_119000 := rb HO_119000 hb
                     replace HO_119001 := rb HO_119001 hb
                     replace BK101 := bb BK101 hb
                     replace BK118 := bb BK118 hb
                     replace HB := bs HB hb
                     (try clear hb)
                     (try clear hb2)
                     (try clear hk)
                     (try clear hi)
                     refine hK.out _ _ ⟨(blk_cell BK101.out 0).trans rfl, (blk_cell BK101.out 1).trans rfl, (blk_cell BK101.out 2).trans rfl, (blk_cell BK101.out 3).trans rfl, ((HB.out.cell (World.block_lt_of_cell? w _ hw127_0)).trans hw127_0), ((HB.out.cell (World.block_lt_of_cell? w _ hw129_0)).trans hw129_0), ((HB.out.cell (World.block_lt_of_cell? w _ hw130_0)).trans hw130_0)⟩ (fun hHeld => ?_)
                     clear hK K
                     refine norm_ (a' := ?_) ?_ ?_
                     rotate_left
                     ·show Act.put _ (some 74) _ = _
                      simp only [Act.put, List.setIfInBounds_toArray, List.set_cons_zero, List.set_cons_succ, i64_w, i32_w]
                      rfl
                     refine pu 8 75 ?_
                     refine pu 9 76 ?_
                     refine pu 10 77 ?_
                     refine pu 11 78 ?_
                     refine pu 12 79 ?_
                     refine pu 13 80 ?_
                     refine pu 14 81 ?_
                     refine pu 15 82 ?_
                     refine pu 17 84 ?_
                     refine pu 18 85 ?_
                     refine pu 19 86 ?_
                     refine pu 20 87 ?_
                     refine tk 16 83 hHeld ?_
                     refine tk 21 88 hHeld ?_
                     refine pu 22 89 ?_
                     refine pu 23 90 ?_
                     refine pu 24 91 ?_
                     refine pu 25 12 ?_
                     refine done_ (done_of HT_.out (by kernel_rfl)) ?_
                     try go_wp2
                     go_roundg k4
                     case measure => have := HJ3.out; have := HJ17.out; have := HJ44.out; have := HK4.out; omega
                     case rel => exact ⟨(decide ((rd l2 x13_4) > (rd l2 (ji60)))), (wrap64 (x13_4 + 1)), (by first | rfl | (simp; done) | (simp only [← hji60] <;> (first | rfl | simp)) | (simp [*]; done)), (by first | rfl | (simp; done) | (simp [*]; done)), H', ⟨by have := HJ3.out; have := HJ17.out; have := HJ44.out; have := HK4.out; omega⟩, ⟨by (with_reducible repeat (first | apply Kd.R_alloc | apply Kd.R_drewN | apply Kd.R_drew)); exact HO_9.out⟩, ⟨by (with_reducible repeat (first | apply Kd.R_alloc | apply Kd.R_drewN | apply Kd.R_drew)); exact HO_119000.out⟩, ⟨by (with_reducible repeat (first | apply Kd.R_alloc | apply Kd.R_drewN | apply Kd.R_drew)); exact HO_119001.out⟩, ⟨by (with_reducible repeat (first | refine blk_drewN ?_ _ | refine blk_drew ?_ | refine blk_alloc ?_ _)); exact BK101.out⟩, ⟨by (with_reducible repeat (first | refine blk_drewN ?_ _ | refine blk_drew ?_ | refine blk_alloc ?_ _)); exact BK118.out⟩, ⟨pE HB⟩⟩
                    ·rw [if_neg c62] at H
                     exact absurd H (by simp)
                   ·rw [if_neg c61] at H
                    exact absurd H (by simp)
                 ·replace c56 := Bool.eq_false_iff.mpr c56
                  subst c56
                  rw [if_neg (show ¬ (false = true) by decide)] at H
                  have H' := Aside0.mk H
                  clear H
                  try go_wp2
                  replace HO_9 := Aside0.mk (Kd.R_drew HO_9.out)
                  replace HO_119000 := Aside0.mk (Kd.R_drew HO_119000.out)
                  replace HO_119001 := Aside0.mk (Kd.R_drew HO_119001.out)
                  replace BK101 := Aside0.mk (blk_drew BK101.out)
                  replace BK118 := Aside0.mk (blk_drew BK118.out)
                  replace HB := Aside0.mk (below_drew1 HB.out)
                  have p127 : 0 ≤ (x13_4 : Int) := dT
                  have q127 : x13_4 < (l2.length : Int) := dT
                  obtain ⟨ad127, e127, hx127_0⟩ := Kd.at_int HR2.out x13_4 p127 q127
                  have hw127_0 := hx127_0
                  cases e127
                  replace hx127_0 := cut_ HB hx127_0
                  replace p127 := eq_true p127
                  replace q127 := eq_true q127
                  refine start_ (n := 26) (S := fun w' => w'.cell? ⟨gb101, 0, none⟩ = some (.slice A0_0 l0_0.length c0_0) ∧ w'.cell? ⟨gb101, 1, none⟩ = some (.slice A0_1 l0_1.length c0_1) ∧ w'.cell? ⟨gb101, 2, none⟩ = some (.int .i64 a0_2) ∧ w'.cell? ⟨gb101, 3, none⟩ = some (.int .i64 a0_3) ∧ w'.cell? (ad127.add (x13_4).toNat) = some (.int .i64 (rd l2 x13_4))) (ds := []) #[false, false, false, false, false, false, false, false, false, false, false, false, false, false, false, false, false, false, false, false, false, false, false, false, false, false] (by kernel_rfl) rfl rfl ⟨(blk_cell BK101.out 0).trans rfl, (blk_cell BK101.out 1).trans rfl, (blk_cell BK101.out 2).trans rfl, (blk_cell BK101.out 3).trans rfl, ((HB.out.cell (World.block_lt_of_cell? w _ hw127_0)).trans hw127_0)⟩ (fun hHeld => ?_); refine with_tabW walkmilllaw05_TenterTights.tab13 walkmilllaw05_TenterTights.bits13 (fun HT_ HW_ => ?_)
                  generalize wr.drew = w65 at HO_9 HO_119000 HO_119001 BK101 BK118 HB hx127_0 hHeld ⊢
                  refine pu 0 67 ?_
                  refine pu 1 68 ?_
                  refine pu 3 70 ?_
                  refine pu 4 71 ?_
                  refine pu 5 72 ?_
                  refine tk 2 69 hHeld ?_
                  refine tk 6 73 hHeld ?_
                  refine on 7 (fun K hK => ?_)
                  refine gO Tryz.func21 #[.agg #[.slice A0_0 l0_0.length c0_0, .slice A0_1 l0_1.length c0_1, .int .i64 a0_2, .int .i64 a0_3], .int .i64 (rd l2 x13_4)] ?_
                  with_reducible refine (walkmilllaw05_cloth.calls _ _ l0_0 _ _ l0_1 a0_2 a0_3 (rd l2 x13_4) false _ ?side1 ?side2 ?side3 ?side4 A55.out).mono ?_
                  (case side1 => exact pC (Kd.C_below HR0_0.out HB.out))
                  (case side2 => exact HC0_0.out)
                  (case side3 => exact pC (Kd.C_below HR0_1.out HB.out))
                  (case side4 => exact HC0_1.out)
                  rintro e w66 ⟨rfl, hb⟩
                  refine ⟨_, rfl, ?_⟩
                  replace HO_9 := rb HO_9 hb
                  replace HO_119000 := rb HO_119000 hb
                  replace HO_119001 := rb HO_119001 hb
                  replace BK101 := bb BK101 hb
                  replace BK118 := bb BK118 hb
                  replace HB := bs HB hb
                  (try clear hb)
                  (try clear hb2)
                  (try clear hk)
                  (try clear hi)
                  refine hK.out _ _ ⟨(blk_cell BK101.out 0).trans rfl, (blk_cell BK101.out 1).trans rfl, (blk_cell BK101.out 2).trans rfl, (blk_cell BK101.out 3).trans rfl, ((HB.out.cell (World.block_lt_of_cell? w _ hw127_0)).trans hw127_0)⟩ (fun hHeld => ?_)
                  clear hK K
                  refine norm_ (a' := ?_) ?_ ?_
                  rotate_left
                  ·show Act.put _ (some 74) _ = _
                   simp only [Act.put, List.setIfInBounds_toArray, List.set_cons_zero, List.set_cons_succ, i64_w, i32_w]
                   rfl
                  refine pu 8 75 ?_
                  refine pu 9 76 ?_
                  refine pd 10 77 ?_
                  refine pd 11 78 ?_
                  refine pd 12 79 ?_
                  refine pd 13 80 ?_
                  refine pd 14 81 ?_
                  refine pd 15 82 ?_
                  refine pd 16 83 ?_
                  refine pd 17 84 ?_
                  refine pd 18 85 ?_
                  refine pd 19 86 ?_
                  refine pd 20 87 ?_
                  refine pd 21 88 ?_
                  refine pd 22 89 ?_
                  refine pd 23 90 ?_
                  refine pu 24 91 ?_
                  refine pu 25 12 ?_
                  refine done_ (done_of HT_.out (by kernel_rfl)) ?_
                  try go_wp2
                  go_roundg k4
                  case measure => have := HJ3.out; have := HJ17.out; have := HJ44.out; have := HK4.out; omega
                  case rel => exact ⟨(false), (wrap64 (x13_4 + 1)), (by first | rfl | (simp; done) | (simp [*]; done)), (by first | rfl | (simp; done) | (simp [*]; done)), H', ⟨by have := HJ3.out; have := HJ17.out; have := HJ44.out; have := HK4.out; omega⟩, ⟨by (with_reducible repeat (first | apply Kd.R_alloc | apply Kd.R_drewN | apply Kd.R_drew)); exact HO_9.out⟩, ⟨by (with_reducible repeat (first | apply Kd.R_alloc | apply Kd.R_drewN | apply Kd.R_drew)); exact HO_119000.out⟩, ⟨by (with_reducible repeat (first | apply Kd.R_alloc | apply Kd.R_drewN | apply Kd.R_drew)); exact HO_119001.out⟩, ⟨by (with_reducible repeat (first | refine blk_drewN ?_ _ | refine blk_drew ?_ | refine blk_alloc ?_ _)); exact BK101.out⟩, ⟨by (with_reducible repeat (first | refine blk_drewN ?_ _ | refine blk_drew ?_ | refine blk_alloc ?_ _)); exact BK118.out⟩, ⟨pE HB⟩⟩
                ·rw [if_neg c54] at H
                 exact absurd H (by simp)
               ·replace c53 := Bool.eq_false_iff.mpr c53
                subst c53
                rw [if_neg (show ¬ (false = true) by decide)] at H
                have H' := Aside0.mk H
                clear H
                try go_wp2
                replace HO_9 := Aside0.mk (Kd.R_drew HO_9.out)
                replace HO_119000 := Aside0.mk (Kd.R_drew HO_119000.out)
                replace HO_119001 := Aside0.mk (Kd.R_drew HO_119001.out)
                replace BK101 := Aside0.mk (blk_drew BK101.out)
                replace BK118 := Aside0.mk (blk_drew BK118.out)
                replace HB := Aside0.mk (below_drew1 HB.out)
                refine start_ (n := 26) (S := fun w' => True) (ds := []) #[false, false, false, false, false, false, false, false, false, false, false, false, false, false, false, false, false, false, false, false, false, false, false, false, false, false] (by kernel_rfl) rfl rfl trivial (fun hHeld => ?_); refine with_tabW walkmilllaw05_TenterTights.tab13 walkmilllaw05_TenterTights.bits13 (fun HT_ HW_ => ?_)
                generalize wr.drew = w67 at HO_9 HO_119000 HO_119001 BK101 BK118 HB hHeld ⊢
                refine pu 0 67 ?_
                refine pu 1 68 ?_
                refine pd 2 69 ?_
                refine pd 3 70 ?_
                refine pd 4 71 ?_
                refine pd 5 72 ?_
                refine pd 6 73 ?_
                refine pd 7 74 ?_
                refine pu 8 75 ?_
                refine pu 9 76 ?_
                refine pd 10 77 ?_
                refine pd 11 78 ?_
                refine pd 12 79 ?_
                refine pd 13 80 ?_
                refine pd 14 81 ?_
                refine pd 15 82 ?_
                refine pd 16 83 ?_
                refine pd 17 84 ?_
                refine pd 18 85 ?_
                refine pd 19 86 ?_
                refine pd 20 87 ?_
                refine pd 21 88 ?_
                refine pd 22 89 ?_
                refine pd 23 90 ?_
                refine pu 24 91 ?_
                refine pu 25 12 ?_
                refine done_ (done_of HT_.out (by kernel_rfl)) ?_
                try go_wp2
                go_roundg k4
                case measure => have := HJ3.out; have := HJ17.out; have := HJ44.out; have := HK4.out; omega
                case rel => exact ⟨(false), (wrap64 (x13_4 + 1)), (by first | rfl | (simp; done) | (simp [*]; done)), (by first | rfl | (simp; done) | (simp [*]; done)), H', ⟨by have := HJ3.out; have := HJ17.out; have := HJ44.out; have := HK4.out; omega⟩, ⟨by (with_reducible repeat (first | apply Kd.R_alloc | apply Kd.R_drewN | apply Kd.R_drew)); exact HO_9.out⟩, ⟨by (with_reducible repeat (first | apply Kd.R_alloc | apply Kd.R_drewN | apply Kd.R_drew)); exact HO_119000.out⟩, ⟨by (with_reducible repeat (first | apply Kd.R_alloc | apply Kd.R_drewN | apply Kd.R_drew)); exact HO_119001.out⟩, ⟨by (with_reducible repeat (first | refine blk_drewN ?_ _ | refine blk_drew ?_ | refine blk_alloc ?_ _)); exact BK101.out⟩, ⟨by (with_reducible repeat (first | refine blk_drewN ?_ _ | refine blk_drew ?_ | refine blk_alloc ?_ _)); exact BK118.out⟩, ⟨pE HB⟩⟩
              ·rw [if_neg c52] at H
               have c52b0 : decide (x13_4 < (l2.length : Int)) = false := decide_eq_false c52
               clear c52
               by_cases c68 : x12_4 = true
               ·subst c68
                rw [if_pos rfl] at H
                have H' := Aside0.mk H
                clear H
                go_wp2
                go_meet
                case rel => exact ⟨_, (t125), (by first | rfl | (simp; done) | (simp [*]; done)), H', ⟨by have := HJ3.out; have := HJ17.out; have := HJ44.out; have := HK4.out; first | omega | exact Nat.le_refl _⟩, ⟨by (with_reducible repeat (first | apply Kd.R_alloc | apply Kd.R_drewN | apply Kd.R_drew)); exact HO_9.out⟩, ⟨by (with_reducible repeat (first | apply Kd.R_alloc | apply Kd.R_drewN | apply Kd.R_drew)); exact HO_119000.out⟩, ⟨by (with_reducible repeat (first | apply Kd.R_alloc | apply Kd.R_drewN | apply Kd.R_drew)); exact HO_119001.out⟩, ⟨by (with_reducible repeat (first | refine blk_drewN ?_ _ | refine blk_drew ?_ | refine blk_alloc ?_ _)); exact BK101.out⟩, ⟨by (with_reducible repeat (first | refine blk_drewN ?_ _ | refine blk_drew ?_ | refine blk_alloc ?_ _)); exact BK118.out⟩, ⟨pE HB⟩⟩
               ·replace c68 := Bool.eq_false_iff.mpr c68
                subst c68
                rw [if_neg (show ¬ (false = true) by decide)] at H
                have H' := Aside0.mk H
                clear H
                go_wp2
                go_meet
                case rel => exact ⟨_, (7), (by first | rfl | (simp; done) | (simp [*]; done)), H', ⟨by have := HJ3.out; have := HJ17.out; have := HJ44.out; have := HK4.out; first | omega | exact Nat.le_refl _⟩, ⟨by (with_reducible repeat (first | apply Kd.R_alloc | apply Kd.R_drewN | apply Kd.R_drew)); exact HO_9.out⟩, ⟨by (with_reducible repeat (first | apply Kd.R_alloc | apply Kd.R_drewN | apply Kd.R_drew)); exact HO_119000.out⟩, ⟨by (with_reducible repeat (first | apply Kd.R_alloc | apply Kd.R_drewN | apply Kd.R_drew)); exact HO_119001.out⟩, ⟨by (with_reducible repeat (first | refine blk_drewN ?_ _ | refine blk_drew ?_ | refine blk_alloc ?_ _)); exact BK101.out⟩, ⟨by (with_reducible repeat (first | refine blk_drewN ?_ _ | refine blk_drew ?_ | refine blk_alloc ?_ _)); exact BK118.out⟩, ⟨pE HB⟩⟩
         ·rw [if_neg c44] at H
          have c44b0 : (t125 == 0) = false := beq_eq_false_iff_ne.mpr c44
          have c44b1 : (t125 != 0) = true := bne_iff_ne.mpr c44
          (first | rw [c44b0] | (simp only [i64_w, i32_w]; rw [c44b0]) | skip)
          have H' := Aside0.mk H
          clear H
          go_wp2
          go_meet
          case rel => exact ⟨_, (t125), (by first | rfl | (simp; done) | (simp [*]; done)), H', ⟨by have := HJ3.out; have := HJ17.out; first | omega | exact Nat.le_refl _⟩, ⟨by (with_reducible repeat (first | apply Kd.R_alloc | apply Kd.R_drewN | apply Kd.R_drew)); exact HO_9.out⟩, ⟨by (with_reducible repeat (first | apply Kd.R_alloc | apply Kd.R_drewN | apply Kd.R_drew)); exact HO_119000.out⟩, ⟨by (with_reducible repeat (first | apply Kd.R_alloc | apply Kd.R_drewN | apply Kd.R_drew)); exact HO_119001.out⟩, ⟨by (with_reducible repeat (first | refine blk_drewN ?_ _ | refine blk_drew ?_ | refine blk_alloc ?_ _)); exact BK101.out⟩, ⟨by (with_reducible repeat (first | refine blk_drewN ?_ _ | refine blk_drew ?_ | refine blk_alloc ?_ _)); exact BK118.out⟩, ⟨pE HB⟩⟩
        case rest =>
         clear HC40
         try clear p1
         try clear q1
         try clear hx1
         try clear c2
         try clear p2
         try clear c4
         try clear c5
         try clear c6
         try clear p6
         try clear p12
         try clear q12
         try clear hx12
         try clear c21
         try clear c44
         try clear c44b0
         try clear c44b1
         try clear c52
         try clear c52b0
         try clear c53
         try clear c54
         try clear c56
         try clear c61
         try clear c62
         try clear p64
         try clear c68
         try clear hx127_0
         try clear p127
         try clear q127
         obtain ⟨kq, x11_39, rfl, HA, HJ39, HO_9, HO_119000, HO_119001, BK101, BK118, HB⟩ := hcut
         cases kq with
         | zero => exact absurd HA.out (by simp [walkmilllaw05_TenterTights.j4])
         | succ kj39 =>
          have H := HA.out
          clear HA
          simp only [walkmilllaw05_TenterTights.j4] at H
          by_cases c69 : x11_39 = 0
          ·rw [if_pos c69] at H
           have c69b0 : (x11_39 == 0) = true := beq_iff_eq.mpr c69
           have c69b1 : (x11_39 != 0) = false := bne_eq_false_iff_eq.mpr c69
           clear c69
           by_cases c70 : 0 ≤ a1
           ·rw [if_pos c70] at H
            have c70b0 : decide (0 ≤ a1) = true := decide_eq_true c70
            clear c70
            by_cases c71 : a1 < (l0_1.length : Int)
            ·rw [if_pos c71] at H
             have c71b0 : decide (a1 < (l0_1.length : Int)) = true := decide_eq_true c71
             clear c71
             obtain ⟨⟨t132, t135⟩, A72, H⟩ := bi H
             by_cases c73 : t135 = true
             ·subst c73
              rw [if_pos rfl] at H
              by_cases c74 : t122 = 0
              ·rw [if_pos c74] at H
               have c74b0 : (t122 == 0) = true := beq_iff_eq.mpr c74
               have c74b1 : (t122 != 0) = false := bne_eq_false_iff_eq.mpr c74
               clear c74
               obtain ⟨t136, A75, H⟩ := bi H
               by_cases c76 : t136 = true
               ·subst c76
                rw [if_pos rfl] at H
                obtain ⟨t137, A77, H⟩ := bi H
                obtain rfl := Option.some.inj H
                try go_wp2
                replace HO_9 := Aside0.mk (Kd.R_drew HO_9.out)
                replace HO_119000 := Aside0.mk (Kd.R_drew HO_119000.out)
                replace HO_119001 := Aside0.mk (Kd.R_drew HO_119001.out)
                replace BK101 := Aside0.mk (blk_drew BK101.out)
                replace BK118 := Aside0.mk (blk_drew BK118.out)
                replace HB := Aside0.mk (below_drew1 HB.out)
                have p131 : 0 ≤ (a1 : Int) := dT
                have q131 : a1 < (l0_1.length : Int) := dT
                obtain ⟨ad131, e131, hx131_0⟩ := Kd.at_int HR0_1.out a1 p131 q131
                have hw131_0 := hx131_0
                cases e131
                replace hx131_0 := cut_ HB hx131_0
                replace p131 := eq_true p131
                replace q131 := eq_true q131
                refine start_ (n := 13) (S := fun w' => w'.cell? ⟨gb101, 0, none⟩ = some (.slice A0_0 l0_0.length c0_0) ∧ w'.cell? ⟨gb101, 1, none⟩ = some (.slice (some ad131) l0_1.length c0_1) ∧ w'.cell? ⟨gb101, 2, none⟩ = some (.int .i64 a0_2) ∧ w'.cell? ⟨gb101, 3, none⟩ = some (.int .i64 a0_3) ∧ w'.cell? (ad131.add (a1).toNat) = some (.int .i64 (rd l0_1 a1))) (ds := []) #[false, false, false, false, false, false, false, false, false, false, false, false, false] (by kernel_rfl) rfl rfl ⟨(blk_cell BK101.out 0).trans rfl, (blk_cell BK101.out 1).trans rfl, (blk_cell BK101.out 2).trans rfl, (blk_cell BK101.out 3).trans rfl, ((HB.out.cell (World.block_lt_of_cell? w _ hw131_0)).trans hw131_0)⟩ (fun hHeld => ?_); refine with_tabW walkmilllaw05_TenterTights.tab17 walkmilllaw05_TenterTights.bits17 (fun HT_ HW_ => ?_)
                generalize wc.drew = w78 at HO_9 HO_119000 HO_119001 BK101 BK118 HB hx131_0 hHeld ⊢
                refine pu 1 98 ?_
                refine pu 3 100 ?_
                refine pu 6 103 ?_
                refine tk 0 97 hHeld ?_
                refine tk 2 99 hHeld ?_
                refine pu 4 101 ?_
                refine tk 5 102 hHeld ?_
                refine on 7 (fun K hK => ?_)
                refine gO Tryz.func33 #[.agg #[.slice A0_0 l0_0.length c0_0, .slice (some ad131) l0_1.length c0_1, .int .i64 a0_2, .int .i64 a0_3], .int .i64 (rd l0_1 a1), .slice A2 l2.length c2] ?_
                with_reducible refine (walkmillref05_Tight.calls kj39 _ _ l0_0 _ _ l0_1 a0_2 a0_3 (rd l0_1 a1) _ _ l2 t132 true _ ?side1 ?side2 ?side3 ?side4 ?side5 ?side6 A72.out).mono ?_
                (case side1 => exact pC (Kd.C_below HR0_0.out HB.out))
                (case side2 => exact HC0_0.out)
                (case side3 => exact pC (Kd.C_below HR0_1.out HB.out))
                (case side4 => exact HC0_1.out)
                (case side5 => exact pC (Kd.C_below HR2.out HB.out))
                (case side6 => exact HC2.out)
                rintro e w79 ⟨v133, rfl, ho0, hb⟩
                refine ⟨_, rfl, ?_⟩
                replace HO_119000 := rb HO_119000 hb
                have HO134 := Aside0.mk (Kd.R_lower (Kd.R_new' (Kd.R_new' ho0 (Kd.R_lt (pR HO_9.out))) (Kd.R_lt (pR HO_119001.out))) (below_size (pE HB)))
                replace HO_9 := re HO_9 ho0 hb
                replace HO_119001 := re HO_119001 ho0 hb
                replace BK101 := bb BK101 hb
                replace BK118 := bb BK118 hb
                replace HB := bs HB hb
                (try clear hb)
                (try clear hb2)
                (try clear hk)
                (try clear hi)
                (try clear ho0)
                refine hK.out _ _ ⟨(blk_cell BK101.out 0).trans rfl, (blk_cell BK101.out 1).trans rfl, (blk_cell BK101.out 2).trans rfl, (blk_cell BK101.out 3).trans rfl, ((HB.out.cell (World.block_lt_of_cell? w _ hw131_0)).trans hw131_0)⟩ (fun hHeld => ?_)
                clear hK K
                refine norm_ (a' := ?_) ?_ ?_
                rotate_left
                ·show Act.put _ (some 104) _ = _
                 simp only [Act.put, List.setIfInBounds_toArray, List.set_cons_zero, List.set_cons_succ, i64_w, i32_w]
                 rfl
                refine pu 8 96 ?_
                refine pu 9 105 ?_
                refine pu 10 106 ?_
                refine pu 11 14 ?_
                refine pu 12 15 ?_
                refine done_ (done_of HT_.out (by kernel_rfl)) ?_
                obtain ⟨Ao80, co80, eo80⟩ := Kd.R_slice HO_9.out
                subst eo80
                obtain ⟨Ao81, co81, eo81⟩ := Kd.R_slice HO134.out
                subst eo81
                try go_wp2_with (first | (go_at_call 31; (with_reducible refine (walkmillref05_Ints.calls kj39 _ _ t119 _ _ t132 true _ ?side1 ?side2 ?side3 ?side4 A75.out).mono ?_); (case side1 => exact pC (Kd.R_reads' HO_9.out).2.2); (case side2 => exact (Kd.R_reads' HO_9.out).2.1); (case side3 => exact pC (Kd.R_reads' HO134.out).2.2); (case side4 => exact (Kd.R_reads' HO134.out).2.1); rintro e w' ⟨rfl, ⟨nd, rfl⟩⟩) | (go_at_call 13; (with_reducible refine (walkmilllaw05_known.calls t137 _ A77.out (LaidT.below HLd.out (pE HB))).mono ?_); rintro e w82 ⟨rfl, hb⟩; replace HO_9 := rb HO_9 hb; replace HO_119000 := rb HO_119000 hb; replace HO_119001 := rb HO_119001 hb; replace HO134 := rb HO134 hb; replace BK101 := bb BK101 hb; replace BK118 := bb BK118 hb; replace HB := bs HB hb; (try clear hb); (try clear hb2); (try clear hk); (try clear hi)))
                go_ret
                exact ⟨eT, pE HB⟩
               ·replace c76 := Bool.eq_false_iff.mpr c76
                subst c76
                rw [if_neg (show ¬ (false = true) by decide)] at H
                exact absurd ((Option.some.inj H).trans HRT.out) (by simp)
              ·rw [if_neg c74] at H
               have c74b0 : (t122 == 0) = false := beq_eq_false_iff_ne.mpr c74
               have c74b1 : (t122 != 0) = true := bne_iff_ne.mpr c74
               exact absurd ((Option.some.inj H).trans HRT.out) (by simp)
             ·replace c73 := Bool.eq_false_iff.mpr c73
              subst c73
              rw [if_neg (show ¬ (false = true) by decide)] at H
              by_cases c83 : t122 = 9
              ·rw [if_pos c83] at H
               have c83b0 : (t122 == 9) = true := beq_iff_eq.mpr c83
               have c83b1 : (t122 != 9) = false := bne_eq_false_iff_eq.mpr c83
               clear c83
               by_cases c84 : (t119.length : Int) = 0
               ·rw [if_pos c84] at H
                have c84b0 : ((t119.length : Int) == 0) = true := beq_iff_eq.mpr c84
                have c84b1 : ((t119.length : Int) != 0) = false := bne_eq_false_iff_eq.mpr c84
                clear c84
                obtain ⟨t138, A85, H⟩ := bi H
                obtain rfl := Option.some.inj H
                try go_wp2
                replace HO_9 := Aside0.mk (Kd.R_drew HO_9.out)
                replace HO_119000 := Aside0.mk (Kd.R_drew HO_119000.out)
                replace HO_119001 := Aside0.mk (Kd.R_drew HO_119001.out)
                replace BK101 := Aside0.mk (blk_drew BK101.out)
                replace BK118 := Aside0.mk (blk_drew BK118.out)
                replace HB := Aside0.mk (below_drew1 HB.out)
                have p131 : 0 ≤ (a1 : Int) := dT
                have q131 : a1 < (l0_1.length : Int) := dT
                obtain ⟨ad131, e131, hx131_0⟩ := Kd.at_int HR0_1.out a1 p131 q131
                have hw131_0 := hx131_0
                cases e131
                replace hx131_0 := cut_ HB hx131_0
                replace p131 := eq_true p131
                replace q131 := eq_true q131
                refine start_ (n := 13) (S := fun w' => w'.cell? ⟨gb101, 0, none⟩ = some (.slice A0_0 l0_0.length c0_0) ∧ w'.cell? ⟨gb101, 1, none⟩ = some (.slice (some ad131) l0_1.length c0_1) ∧ w'.cell? ⟨gb101, 2, none⟩ = some (.int .i64 a0_2) ∧ w'.cell? ⟨gb101, 3, none⟩ = some (.int .i64 a0_3) ∧ w'.cell? (ad131.add (a1).toNat) = some (.int .i64 (rd l0_1 a1))) (ds := []) #[false, false, false, false, false, false, false, false, false, false, false, false, false] (by kernel_rfl) rfl rfl ⟨(blk_cell BK101.out 0).trans rfl, (blk_cell BK101.out 1).trans rfl, (blk_cell BK101.out 2).trans rfl, (blk_cell BK101.out 3).trans rfl, ((HB.out.cell (World.block_lt_of_cell? w _ hw131_0)).trans hw131_0)⟩ (fun hHeld => ?_); refine with_tabW walkmilllaw05_TenterTights.tab17 walkmilllaw05_TenterTights.bits17 (fun HT_ HW_ => ?_)
                generalize wc.drew = w86 at HO_9 HO_119000 HO_119001 BK101 BK118 HB hx131_0 hHeld ⊢
                refine pu 1 98 ?_
                refine pu 3 100 ?_
                refine pu 6 103 ?_
                refine tk 0 97 hHeld ?_
                refine tk 2 99 hHeld ?_
                refine pu 4 101 ?_
                refine tk 5 102 hHeld ?_
                refine on 7 (fun K hK => ?_)
                refine gO Tryz.func33 #[.agg #[.slice A0_0 l0_0.length c0_0, .slice (some ad131) l0_1.length c0_1, .int .i64 a0_2, .int .i64 a0_3], .int .i64 (rd l0_1 a1), .slice A2 l2.length c2] ?_
                with_reducible refine (walkmillref05_Tight.calls kj39 _ _ l0_0 _ _ l0_1 a0_2 a0_3 (rd l0_1 a1) _ _ l2 t132 false _ ?side1 ?side2 ?side3 ?side4 ?side5 ?side6 A72.out).mono ?_
                (case side1 => exact pC (Kd.C_below HR0_0.out HB.out))
                (case side2 => exact HC0_0.out)
                (case side3 => exact pC (Kd.C_below HR0_1.out HB.out))
                (case side4 => exact HC0_1.out)
                (case side5 => exact pC (Kd.C_below HR2.out HB.out))
                (case side6 => exact HC2.out)
                rintro e w87 ⟨v133, rfl, ho0, hb⟩
                refine ⟨_, rfl, ?_⟩
                replace HO_119000 := rb HO_119000 hb
                have HO134 := Aside0.mk (Kd.R_lower (Kd.R_new' (Kd.R_new' ho0 (Kd.R_lt (pR HO_9.out))) (Kd.R_lt (pR HO_119001.out))) (below_size (pE HB)))
                replace HO_9 := re HO_9 ho0 hb
                replace HO_119001 := re HO_119001 ho0 hb
                replace BK101 := bb BK101 hb
                replace BK118 := bb BK118 hb
                replace HB := bs HB hb
                (try clear hb)
                (try clear hb2)
                (try clear hk)
                (try clear hi)
                (try clear ho0)
                refine hK.out _ _ ⟨(blk_cell BK101.out 0).trans rfl, (blk_cell BK101.out 1).trans rfl, (blk_cell BK101.out 2).trans rfl, (blk_cell BK101.out 3).trans rfl, ((HB.out.cell (World.block_lt_of_cell? w _ hw131_0)).trans hw131_0)⟩ (fun hHeld => ?_)
                clear hK K
                refine norm_ (a' := ?_) ?_ ?_
                rotate_left
                ·show Act.put _ (some 104) _ = _
                 simp only [Act.put, List.setIfInBounds_toArray, List.set_cons_zero, List.set_cons_succ, i64_w, i32_w]
                 rfl
                refine pu 8 96 ?_
                refine pu 9 105 ?_
                refine pu 10 106 ?_
                refine pu 11 14 ?_
                refine pu 12 15 ?_
                refine done_ (done_of HT_.out (by kernel_rfl)) ?_
                obtain ⟨Ao88, co88, eo88⟩ := Kd.R_slice HO_9.out
                subst eo88
                try go_wp2_with (first | (go_at_call 13; (with_reducible refine (walkmilllaw05_known.calls t138 _ A85.out (LaidT.below HLd.out (pE HB))).mono ?_); rintro e w89 ⟨rfl, hb⟩; replace HO_9 := rb HO_9 hb; replace HO_119000 := rb HO_119000 hb; replace HO_119001 := rb HO_119001 hb; replace HO134 := rb HO134 hb; replace BK101 := bb BK101 hb; replace BK118 := bb BK118 hb; replace HB := bs HB hb; (try clear hb); (try clear hb2); (try clear hk); (try clear hi)))
                go_ret
                exact ⟨eT, pE HB⟩
               ·rw [if_neg c84] at H
                have c84b0 : ((t119.length : Int) == 0) = false := beq_eq_false_iff_ne.mpr c84
                have c84b1 : ((t119.length : Int) != 0) = true := bne_iff_ne.mpr c84
                have c84b2 : ¬ (t119 = []) := fun h_ => c84 (by rw [h_]; rfl)
                exact absurd ((Option.some.inj H).trans HRT.out) (by simp)
              ·rw [if_neg c83] at H
               have c83b0 : (t122 == 9) = false := beq_eq_false_iff_ne.mpr c83
               have c83b1 : (t122 != 9) = true := bne_iff_ne.mpr c83
               exact absurd ((Option.some.inj H).trans HRT.out) (by simp)
            ·rw [if_neg c71] at H
             exact absurd H (by simp)
           ·rw [if_neg c70] at H
            exact absurd H (by simp)
          ·rw [if_neg c69] at H
           have c69b0 : (x11_39 == 0) = false := beq_eq_false_iff_ne.mpr c69
           have c69b1 : (x11_39 != 0) = true := bne_iff_ne.mpr c69
           by_cases c90 : t122 = x11_39
           ·rw [if_pos c90] at H
            have c90b0 : (t122 == x11_39) = true := beq_iff_eq.mpr c90
            have c90b1 : (t122 != x11_39) = false := bne_eq_false_iff_eq.mpr c90
            clear c90
            by_cases c91 : (t119.length : Int) = 0
            ·rw [if_pos c91] at H
             have c91b0 : ((t119.length : Int) == 0) = true := beq_iff_eq.mpr c91
             have c91b1 : ((t119.length : Int) != 0) = false := bne_eq_false_iff_eq.mpr c91
             clear c91
             obtain ⟨t139, A92, H⟩ := bi H
             obtain rfl := Option.some.inj H
             obtain ⟨Ao93, co93, eo93⟩ := Kd.R_slice HO_9.out
             subst eo93
             go_wp2_with (first | (go_at_call 13; (with_reducible refine (walkmilllaw05_known.calls t139 _ A92.out (LaidT.below HLd.out (pE HB))).mono ?_); rintro e w94 ⟨rfl, hb⟩; replace HO_9 := rb HO_9 hb; replace HO_119000 := rb HO_119000 hb; replace HO_119001 := rb HO_119001 hb; replace BK101 := bb BK101 hb; replace BK118 := bb BK118 hb; replace HB := bs HB hb; (try clear hb); (try clear hb2); (try clear hk); (try clear hi)))
             go_ret
             exact ⟨eT, pE HB⟩
            ·rw [if_neg c91] at H
             have c91b0 : ((t119.length : Int) == 0) = false := beq_eq_false_iff_ne.mpr c91
             have c91b1 : ((t119.length : Int) != 0) = true := bne_iff_ne.mpr c91
             have c91b2 : ¬ (t119 = []) := fun h_ => c91 (by rw [h_]; rfl)
             exact absurd ((Option.some.inj H).trans HRT.out) (by simp)
           ·rw [if_neg c90] at H
            have c90b0 : (t122 == x11_39) = false := beq_eq_false_iff_ne.mpr c90
            have c90b1 : (t122 != x11_39) = true := bne_iff_ne.mpr c90
            exact absurd ((Option.some.inj H).trans HRT.out) (by simp)
    ·rw [if_neg c16] at H
     exact absurd H (by simp)
end Go.Proofs.YtikmfpjcdcckeaaGreatDoor.P
namespace Go.Proofs.YtikmfpjcdcckeaaGreatDoor.P
open Go.RowKit Go.Proofs.YtikmfpjcdcckeaaGreatDoorW.PrintWords Go.Proofs.YtikmfpjcdcckeaaGreatDoorW.PrintLast Go.Proofs.YtikmfpjcdcckeaaGreatDoorW.PrintMore
theorem rcloth_eq (l0 : List S43) (l1 : List Int) (g s i : Int) (h : l0.length ≤ 1000) : walkmilllaw05_cloth.f l0 l1 g s i = some (isIn 0 ((l0.length : Int) - 1) i) := by
  unfold walkmilllaw05_cloth.f
  rw [rIn_eq, w64_of (by omega) (by omega)]; rfl
def afrom (p : Nat → Bool) : Nat → Nat → Bool
  | _, 0 => true
  | i, d + 1 => p i && afrom p (i + 1) d
def sumF (f : S36 → Int) (H : Int → S36) : List Int → Int
  | [] => 0
  | c :: r => f (H c) + sumF f H r
def greedy (H : Int → S36) : Int → List Int → Option (List Int)
  | L, [] => if L = 0 then some [] else none
  | L, c :: r => if mx (H c).f0 (L - sumF S36.f1 H r) > (H c).f1 then none else (greedy H (L - mx (H c).f0 (L - sumF S36.f1 H r)) r).map (mx (H c).f0 (L - sumF S36.f1 H r) :: ·)
theorem mx_le {a b : Int} : a ≤ mx a b ∧ b ≤ mx a b ∧ (mx a b = a ∨ mx a b = b) := by unfold mx; split <;> omega
def badO (H : Int → S36) (c : Int) : Bool := decide ((H c).f0 > (H c).f1)
theorem greedy_bad (H : Int → S36) : ∀ (cs : List Int) (L : Int), cs.any (badO H) = true → greedy H L cs = none
  | [], L, h => by simp at h
  | c :: r, L, h => by
    unfold greedy
    by_cases h1 : mx (H c).f0 (L - sumF S36.f1 H r) > (H c).f1
    · rw [if_pos h1]
    · rw [if_neg h1]
      have hc : badO H c = false := by
        have := (@mx_le (H c).f0 (L - sumF S36.f1 H r)).1
        unfold badO; simp only [decide_eq_false_iff_not]; omega
      rw [greedy_bad H r _ (by simpa [hc] using h)]; rfl
theorem sum_le (H : Int → S36) : ∀ cs : List Int, cs.any (badO H) = false → sumF S36.f0 H cs ≤ sumF S36.f1 H cs
  | [], _ => by simp [sumF]
  | c :: r, h => by
    simp only [List.any_cons, Bool.or_eq_false_iff] at h
    have := sum_le H r h.2
    have hc := h.1
    unfold badO at hc; simp only [decide_eq_false_iff_not] at hc
    unfold sumF; omega
theorem greedy_iff (H : Int → S36) : ∀ (cs : List Int) (L : Int), cs.any (badO H) = false → ((∃ r, greedy H L cs = some r) ↔ (sumF S36.f0 H cs ≤ L ∧ L ≤ sumF S36.f1 H cs))
  | [], L, _ => by
    unfold greedy sumF
    by_cases h : L = 0
    · rw [if_pos h]; simp [h]
    · rw [if_neg h]; simp; omega
  | c :: r, L, h => by
    simp only [List.any_cons, Bool.or_eq_false_iff] at h
    have hs := sum_le H r h.2
    have hc := h.1
    unfold badO at hc; simp only [decide_eq_false_iff_not] at hc
    have hm := @mx_le (H c).f0 (L - sumF S36.f1 H r)
    have ih := greedy_iff H r (L - mx (H c).f0 (L - sumF S36.f1 H r)) h.2
    unfold greedy
    rw [sumF, sumF]
    by_cases h1 : mx (H c).f0 (L - sumF S36.f1 H r) > (H c).f1
    · rw [if_pos h1]
      constructor
      · rintro ⟨_, h⟩; cases h
      · intro hh; omega
    · rw [if_neg h1]
      constructor
      · rintro ⟨x, hx⟩
        obtain ⟨y, hy, _⟩ := Option.map_eq_some_iff.1 hx
        have := ih.1 ⟨y, hy⟩
        omega
      · intro hh
        obtain ⟨y, hy⟩ := ih.2 (by omega)
        exact ⟨_, by rw [hy]; rfl⟩
def Hg (s : Int) (l0 : List S43) (c : Int) : S36 := hangOf s (rd_T43 l0 c)
theorem hang_bounds {s : Int} {c : S43} (hs : 0 ≤ s) (hs2 : s ≤ 200) (h : clothOk c = true) : 0 ≤ (hangOf s c).f0 ∧ (hangOf s c).f0 ≤ 2400 ∧ 0 ≤ (hangOf s c).f1 ∧ (hangOf s c).f1 ≤ 2400 := by
  have hc := cloth_long h
  have e := pull_eq (s := s) (n := c.f0.f0) hs hs2 (by omega) (by omega)
  have h1 : 0 ≤ c.f0.f0 * (1000 + s) := Int.mul_nonneg (by omega) (by omega)
  have h2 : c.f0.f0 * (1000 + s) ≤ 2000 * 1200 := Int.mul_le_mul (by omega) (by omega) (by omega) (by omega)
  unfold hangOf
  split
  · simp
  · simp only
    rw [e]
    omega
theorem inr (l0 : List S43) (c : Int) (h : isIn 0 ((l0.length : Int) - 1) c = true) : 0 ≤ c ∧ c < (l0.length : Int) := by
  have := isIn_iff.1 h; omega
theorem rd36_map (s : Int) (l0 : List S43) (c : Int) (h0 : 0 ≤ c) (h1 : c < (l0.length : Int)) : rd_T36 (l0.map (hangOf s)) c = Hg s l0 c := by
  obtain ⟨j, rfl⟩ : ∃ j : Nat, c = j := ⟨c.toNat, by omega⟩
  rw [rd36_at _ j (by simp; omega)]
  unfold Hg
  rw [rd43_at l0 j (by omega)]; simp
theorem rHangs_at (s : Int) (l0 : List S43) (l1 : List Int) (g : Int) (c : Int) (h0 : 0 ≤ c) (h1 : c < (l0.length : Int)) : walkmillref05_Hangs.f l0 l1 g s c = some ((Hg s l0 c).f0, (Hg s l0 c).f1) := by
  obtain ⟨j, rfl⟩ : ∃ j : Nat, c = j := ⟨c.toNat, by omega⟩
  rw [rHangs_eq l0 l1 g s j (by omega)]
  unfold Hg
  rw [rd43_at l0 j (by omega)]
structure Sm (s : Int) (l0 : List S43) (cs : List Int) : Prop where
  inr : ∀ c ∈ cs, 0 ≤ c ∧ c < (l0.length : Int)
  b : ∀ c ∈ cs, 0 ≤ (Hg s l0 c).f0 ∧ (Hg s l0 c).f0 ≤ 2400 ∧ 0 ≤ (Hg s l0 c).f1 ∧ (Hg s l0 c).f1 ≤ 2400
  le : ∀ c ∈ cs, (Hg s l0 c).f0 ≤ (Hg s l0 c).f1 + 1
theorem Sm.tail {s : Int} {l0 : List S43} {c : Int} {r : List Int} (h : Sm s l0 (c :: r)) : Sm s l0 r := ⟨fun x hx => h.inr x (by simp [hx]), fun x hx => h.b x (by simp [hx]), fun x hx => h.le x (by simp [hx])⟩
theorem Sm.drop {s : Int} {l0 : List S43} {cs : List Int} (h : Sm s l0 cs) (i : Nat) : Sm s l0 (cs.drop i) := ⟨fun x hx => h.inr x (List.mem_of_mem_drop hx), fun x hx => h.b x (List.mem_of_mem_drop hx), fun x hx => h.le x (List.mem_of_mem_drop hx)⟩
theorem Sm.sum {s : Int} {l0 : List S43} : ∀ {cs : List Int}, Sm s l0 cs → 0 ≤ sumF S36.f0 (Hg s l0) cs ∧ sumF S36.f0 (Hg s l0) cs ≤ 2400 * cs.length ∧ 0 ≤ sumF S36.f1 (Hg s l0) cs ∧ sumF S36.f1 (Hg s l0) cs ≤ 2400 * cs.length
  | [], _ => by simp [sumF]
  | c :: r, h => by
    have := h.b c (by simp); have := Sm.sum h.tail
    simp only [sumF, List.length_cons]; omega
theorem sm_of {l0 : List S43} {l1 : List Int} {g s : Int} (h : chk l0 l1 g s = 0) {cs : List Int} (hcs : ∀ c ∈ cs, 0 ≤ c ∧ c < (l0.length : Int)) : Sm s l0 cs := by
  obtain ⟨o1, o2, o3, o4, o5, o6, o7, o8, o9⟩ := chk_ok h
  refine ⟨hcs, fun c hc => ?_, fun c hc => ?_⟩
  rotate_left
  · unfold Hg hangOf; split
    · simp
    · simp only; omega
  obtain ⟨h0, h1⟩ := hcs c hc
  obtain ⟨j, rfl⟩ : ∃ j : Nat, c = j := ⟨c.toNat, by omega⟩
  unfold Hg
  rw [rd43_at l0 j (by omega)]
  exact hang_bounds o8 o9 (o4 _ (List.getElem_mem _))
def toR (o : Option (List Int)) : List Int × Bool := match o with | some r => (r, true) | none => ([], false)
theorem rd_nat (l : List Int) (i : Nat) (h : i < l.length) : rd l (i : Int) = l[i] := rd_at l i h
theorem rT_l0 (g s long : Int) (l0 : List S43) (l1 : List Int) (cs : List Int) (a b : Int) (hS : Sm s l0 cs) (hm : cs.length ≤ 12) (hg : 0 ≤ g) (hg2 : g ≤ 50) : ∀ (d i k : Nat) (x y : Int), i + d = cs.length → 0 ≤ x → x ≤ 3000 * i → 0 ≤ y → y ≤ 3000 * i →
    walkmillref05_Tight.l0 (k + d + 1) long cs x y i l0 l1 g s a b = if (cs.drop i).any (badO (Hg s l0)) = true then some ([], false) else
      walkmillref05_Tight.l1 k long cs (x + (sumF S36.f0 (Hg s l0) (cs.drop i) + g * d)) (y + (sumF S36.f1 (Hg s l0) (cs.drop i) + g * d)) a l0 l1 g s a b
  | 0, i, k, x, y, hd, hx, hx2, hy, hy2 => by
    rw [walkmillref05_Tight.l0, if_neg (by omega), List.drop_of_length_le (by omega)]
    simp [sumF]
  | d + 1, i, k, x, y, hd, hx, hx2, hy, hy2 => by
    have hlt : i < cs.length := by omega
    have hc := hS.inr cs[i] (List.getElem_mem _)
    have hb := hS.b cs[i] (List.getElem_mem _)
    rw [show k + (d + 1) + 1 = (k + d + 1) + 1 by omega, walkmillref05_Tight.l0, if_pos (by omega), if_pos (show (0 : Int) ≤ i by omega), rd_nat cs i hlt, rHangs_at s l0 l1 g _ hc.1 hc.2, List.drop_eq_getElem_cons hlt]
    simp only [Option.bind_some, sumF]
    by_cases hbad : (Hg s l0 cs[i]).f0 > (Hg s l0 cs[i]).f1
    · rw [if_pos hbad, if_pos (show (cs[i] :: cs.drop (i + 1)).any (badO (Hg s l0)) = true by rw [List.any_cons, show badO (Hg s l0) cs[i] = true from decide_eq_true hbad]; rfl)]
    · have e : badO (Hg s l0) cs[i] = false := by unfold badO; simp only [decide_eq_false_iff_not]; exact hbad
      have e0 : (cs[i] :: cs.drop (i + 1)).any (badO (Hg s l0)) = (cs.drop (i + 1)).any (badO (Hg s l0)) := by rw [List.any_cons, e]; rfl
      rw [if_neg hbad, w64_of (n := x + g) (by omega) (by omega), w64_of (n := y + g) (by omega) (by omega), w64_of (n := x + g + _) (by omega) (by omega), w64_of (n := y + g + _) (by omega) (by omega), nx i (by omega),
        rT_l0 g s long l0 l1 cs a b hS hm hg hg2 d (i + 1) k _ _ (by omega) (by omega) (by simp; omega) (by omega) (by simp; omega)]
      have e1 : x + g + (Hg s l0 cs[i]).f0 + (sumF S36.f0 (Hg s l0) (cs.drop (i + 1)) + g * (d : Int)) = x + ((Hg s l0 cs[i]).f0 + sumF S36.f0 (Hg s l0) (cs.drop (i + 1)) + g * ((d + 1 : Nat) : Int)) := by simp only [Int.natCast_add, Int.natCast_one, Int.mul_add]; omega
      have e2 : y + g + (Hg s l0 cs[i]).f1 + (sumF S36.f1 (Hg s l0) (cs.drop (i + 1)) + g * (d : Int)) = y + ((Hg s l0 cs[i]).f1 + sumF S36.f1 (Hg s l0) (cs.drop (i + 1)) + g * ((d + 1 : Nat) : Int)) := by simp only [Int.natCast_add, Int.natCast_one, Int.mul_add]; omega
      rw [e1, e2]
      by_cases hh : (cs.drop (i + 1)).any (badO (Hg s l0)) = true
      · rw [if_pos hh, if_pos (e0.trans hh)]
      · rw [if_neg hh, if_neg (fun h => hh (e0.symm.trans h))]
def fromN (g s : Int) (l0 : List S43) (L n hi : Int) (r : List Int) : List Int × Bool :=
  if mx n (L - sumF S36.f1 (Hg s l0) r) > hi then ([], false) else toR ((greedy (Hg s l0) (L - mx n (L - sumF S36.f1 (Hg s l0) r)) r).map (mx n (L - sumF S36.f1 (Hg s l0) r) :: ·))
theorem rT_l1 (g s long L : Int) (l0 : List S43) (l1 : List Int) (c : Int) (r : List Int) (a hi : Int) (F : Nat) (hS : Sm s l0 (c :: r)) (hm : r.length ≤ 11) (hg : 0 ≤ g) (hg2 : g ≤ 50) (hgood : r.any (badO (Hg s l0)) = false)
    (B : Int) (hB : B ≤ 1000000) (hL : L = long - g * r.length) (hl0 : -B ≤ L) (hl1 : L ≤ B) (hhi : hi ≤ 3000)
    (ih : ∀ k x, F < k → -(B + 3000) ≤ x → x ≤ B + 3000 → walkmillref05_Tight.f k l0 l1 g s (if r = [] then x else x + g * ((r.length : Int) - 1)) r = some (toR (greedy (Hg s l0) x r))) :
    ∀ (d : Nat) (n : Int) (k : Nat), (hi + 1 - n).toNat = d → n ≤ hi + 1 → 0 ≤ n → F + 2 * d + 3 < k →
    walkmillref05_Tight.l1 k long (c :: r) (sumF S36.f0 (Hg s l0) r + g * r.length) (sumF S36.f1 (Hg s l0) r + g * r.length) n l0 l1 g s a hi = some (fromN g s l0 L n hi r)
  | 0, n, k, hd, hn, hn0, hk => by
    obtain ⟨k, rfl⟩ : ∃ m, k = m + 1 := ⟨k - 1, by omega⟩
    rw [walkmillref05_Tight.l1, if_neg (by omega)]
    unfold fromN
    have := @mx_le n (L - sumF S36.f1 (Hg s l0) r)
    rw [if_pos (by omega)]
  | d + 1, n, k, hd, hn, hn0, hk => by
    obtain ⟨k, rfl⟩ : ∃ m, k = m + 2 := ⟨k - 2, by omega⟩
    have hsm := hS.tail.sum
    have hgl : 0 ≤ g * (r.length : Int) ∧ g * (r.length : Int) ≤ 50 * 11 := ⟨Int.mul_nonneg hg (by omega), Int.mul_le_mul hg2 (by omega) (by omega) (by omega)⟩
    rw [show k + 2 = (k + 1) + 1 by omega, walkmillref05_Tight.l1, if_pos (by omega), w64_of (n := long - n) (by omega) (by omega), rIn_eq]
    simp only [Option.bind_some]
    have hs := sum_le (Hg s l0) r hgood
    have hmx := @mx_le n (L - sumF S36.f1 (Hg s l0) r)
    by_cases hin : isIn (sumF S36.f0 (Hg s l0) r + g * r.length) (sumF S36.f1 (Hg s l0) r + g * r.length) (long - n) = true
    · have hin' := isIn_iff.1 hin
      have e : mx n (L - sumF S36.f1 (Hg s l0) r) = n := by omega
      obtain ⟨y, hy⟩ := (greedy_iff (Hg s l0) r (L - n) hgood).2 (by omega)
      have hj : walkmillref05_Tight.j2 (k + 1) long (c :: r) (sumF S36.f0 (Hg s l0) r + g * r.length) (sumF S36.f1 (Hg s l0) r + g * r.length) n (if r = [] then L - n else L - n + g * ((r.length : Int) - 1)) l0 l1 g s a hi = some (n :: y, true) := by
        rw [walkmillref05_Tight.j2, if_pos (by simp; omega), List.drop_one, List.tail_cons, ih k (L - n) (by omega) (by omega) (by omega), hy]
        simp only [toR, Option.bind_some, if_true, List.length_singleton]
        have hyl : y.length ≤ 20 := by
          have : ∀ (cs : List Int) (L : Int) (y : List Int), greedy (Hg s l0) L cs = some y → y.length = cs.length := by
            intro cs
            induction cs with
            | nil => intro L y h; unfold greedy at h; split at h <;> cases h; rfl
            | cons c r ih => 
              intro L y h; unfold greedy at h; split at h
              · cases h
              · obtain ⟨z, hz, rfl⟩ := Option.map_eq_some_iff.1 h
                simp [ih _ _ hz]
          rw [this r _ y hy]; omega
        rw [if_pos (by omega)]; rfl
      rw [if_pos hin]
      have hf : fromN g s l0 L n hi r = (n :: y, true) := by
        unfold fromN
        rw [e, if_neg (by omega), hy]; rfl
      rw [hf]
      cases r with
      | nil =>
        simp only [List.length_nil, Int.natCast_zero, Int.mul_zero, Int.sub_zero] at hL
        subst hL
        rw [if_neg (by simp)]; simpa using hj
      | cons c' r' =>
        rw [if_pos (by simp; omega), w64_of (n := long - n - g) (by omega) (by omega)]
        have e3 : long - n - g = L - n + g * (((c' :: r').length : Int) - 1) := by rw [hL, Int.mul_sub]; omega
        rw [e3]; simpa using hj
    · rw [if_neg hin, w64_of (n := n + 1) (by omega) (by omega), rT_l1 g s long L l0 l1 c r a hi F hS hm hg hg2 hgood B hB hL hl0 hl1 hhi ih d (n + 1) (k + 1) (by omega) (by omega) (by omega) (by omega)]
      have hin' : ¬ (sumF S36.f0 (Hg s l0) r + g * r.length ≤ long - n ∧ long - n ≤ sumF S36.f1 (Hg s l0) r + g * r.length) := fun h => hin (isIn_iff.2 h)
      have hmx2 := @mx_le (n + 1) (L - sumF S36.f1 (Hg s l0) r)
      unfold fromN
      by_cases hb : long - n > sumF S36.f1 (Hg s l0) r + g * r.length
      · rw [show mx (n + 1) (L - sumF S36.f1 (Hg s l0) r) = mx n (L - sumF S36.f1 (Hg s l0) r) by omega]
      · have none_ : ∀ x, x < sumF S36.f0 (Hg s l0) r → greedy (Hg s l0) x r = none := fun x hx => by
          cases hh : greedy (Hg s l0) x r with
          | none => rfl
          | some y => have := (greedy_iff (Hg s l0) r x hgood).1 ⟨y, hh⟩; omega
        rw [none_ _ (by omega), none_ _ (by omega)]
        simp [toR]
def fuelT (n : Nat) : Nat := 6000 * n
theorem fuelT_succ (n : Nat) : fuelT (n + 1) = fuelT n + 6000 := by unfold fuelT; omega
theorem rT_f (g s : Int) (l0 : List S43) (l1 : List Int) (hg : 0 ≤ g) (hg2 : g ≤ 50) : ∀ (cs : List Int), Sm s l0 cs → cs.length ≤ 12 → ∀ (k : Nat) (x : Int), fuelT cs.length < k → -(100000 - 3000 * (cs.length : Int)) ≤ x → x ≤ 100000 - 3000 * (cs.length : Int) →
    walkmillref05_Tight.f k l0 l1 g s (if cs = [] then x else x + g * ((cs.length : Int) - 1)) cs = some (toR (greedy (Hg s l0) x cs)) := by
  intro cs
  induction cs with
  | nil =>
    intro hS hm k x hk hx hx2
    obtain ⟨k, rfl⟩ : ∃ m, k = m + 1 := ⟨k - 1, by omega⟩
    rw [walkmillref05_Tight.f, if_pos (by simp), if_pos rfl]
    unfold greedy
    by_cases h : x = 0
    · rw [if_pos h]; simp [h, toR]
    · rw [if_neg h]; simp [h, toR]
  | cons c r rec_ =>
    intro hS hm k x hk hx hx2
    simp only [List.length_cons] at hm hk hx hx2
    rw [fuelT_succ] at hk
    obtain ⟨k, rfl⟩ : ∃ m, k = (m + r.length + 1) + 1 := ⟨k - r.length - 2, by omega⟩
    have hc := hS.inr c (by simp)
    have hb := hS.b c (by simp)
    have hle := hS.le c (by simp)
    have hgl : 0 ≤ g * (r.length : Int) ∧ g * (r.length : Int) ≤ 50 * 11 := ⟨Int.mul_nonneg hg (by omega), Int.mul_le_mul hg2 (by omega) (by omega) (by omega)⟩
    rw [walkmillref05_Tight.f, if_neg (by simp only [List.length_cons]; omega), if_pos (by simp only [List.length_cons]; omega), show rd (c :: r) 0 = c from rfl, rHangs_at s l0 l1 g c hc.1 hc.2, if_neg (by simp)]
    simp only [Option.bind_some]
    have h0 := rT_l0 g s (x + g * (((c :: r).length : Int) - 1)) l0 l1 (c :: r) (Hg s l0 c).f0 (Hg s l0 c).f1 hS (by simpa using hm) hg hg2 r.length 1 k 0 0 (by simp; omega) (by omega) (by omega) (by omega) (by omega)
    rw [show ((1 : Nat) : Int) = 1 from rfl] at h0
    rw [h0]
    simp only [List.drop_one, List.tail_cons, Int.zero_add]
    by_cases hbad : r.any (badO (Hg s l0)) = true
    · rw [if_pos hbad, greedy_bad (Hg s l0) (c :: r) x (by rw [List.any_cons, hbad, Bool.or_true])]; rfl
    · rw [if_neg hbad]
      have hgood : r.any (badO (Hg s l0)) = false := by simpa using hbad
      have hlen : (((c :: r).length : Int) - 1) = (r.length : Int) := by simp only [List.length_cons, Int.natCast_add, Int.natCast_one]; omega
      rw [hlen, rT_l1 g s (x + g * (r.length : Int)) x l0 l1 c r _ _ (fuelT r.length) hS (by omega) hg hg2 hgood (100000 - 3000 * ((r.length : Int) + 1)) (by omega) (by omega) (by omega) (by omega) (by omega)
        (fun k x hk hx hx2 => rec_ hS.tail (by omega) k x hk (by omega) (by omega)) _ (Hg s l0 c).f0 k rfl (by omega) hb.1 (by omega)]
      unfold fromN
      rw [greedy]
      split <;> rfl
theorem tT_l1 (g s : Int) (l0 : List S43) (l1 : List Int) (cs : List Int) (hS : Sm s l0 cs) (hm : cs.length ≤ 12) : ∀ (d i k : Nat) (acc : List Int) (L : Int), i + d = cs.length → acc.length ≤ i → -(100000 + 3000 * (i : Int)) ≤ L → L ≤ 100000 + 3000 * (i : Int) →
    tenter_Tight.l1 (k + d + 1) acc L (sumF S36.f1 (Hg s l0) (cs.drop i)) cs (cs.length : Int) i l0 l1 g s (l0.map (hangOf s)) = some (match greedy (Hg s l0) L (cs.drop i) with | some r => (acc ++ r, 0) | none => ([], 9))
  | 0, i, k, acc, L, hd, ha, h0, h1 => by
    rw [tenter_Tight.l1, if_neg (by omega), List.drop_of_length_le (by omega)]
    unfold greedy
    by_cases h : L = 0
    · rw [if_pos h, if_pos h]; simp
    · rw [if_neg h, if_neg h]
  | d + 1, i, k, acc, L, hd, ha, h0, h1 => by
    have hlt : i < cs.length := by omega
    have hc := hS.inr cs[i] (List.getElem_mem _)
    have hb := hS.b cs[i] (List.getElem_mem _)
    have hsm := (hS.drop (i + 1)).sum
    simp only [List.length_drop] at hsm
    rw [show k + (d + 1) + 1 = (k + d + 1) + 1 by omega, tenter_Tight.l1, if_pos (by omega), if_pos (show (0 : Int) ≤ i by omega), if_pos (by omega), rd_nat cs i hlt, if_pos hc.1, if_pos (by simpa using hc.2), rd36_map s l0 _ hc.1 hc.2, List.drop_eq_getElem_cons hlt]
    rw [sumF, greedy]
    have e : wrap64 ((Hg s l0 cs[i]).f1 + sumF S36.f1 (Hg s l0) (cs.drop (i + 1)) - (Hg s l0 cs[i]).f1) = sumF S36.f1 (Hg s l0) (cs.drop (i + 1)) := by rw [w64_of (by omega) (by omega)]; omega
    rw [e, w64_of (n := L - _) (by omega) (by omega)]
    have hmx := @mx_le (Hg s l0 cs[i]).f0 (L - sumF S36.f1 (Hg s l0) (cs.drop (i + 1)))
    by_cases h : mx (Hg s l0 cs[i]).f0 (L - sumF S36.f1 (Hg s l0) (cs.drop (i + 1))) > (Hg s l0 cs[i]).f1
    · rw [if_pos h, if_pos h]
    · rw [if_neg h, if_neg h, if_pos (by omega), w64_of (n := L - mx _ _) (by omega) (by omega), nx i (by omega), tT_l1 g s l0 l1 cs hS hm d (i + 1) k _ _ (by omega) (by simp; omega) (by simp; omega) (by simp; omega)]
      cases greedy (Hg s l0) (L - mx (Hg s l0 cs[i]).f0 (L - sumF S36.f1 (Hg s l0) (cs.drop (i + 1)))) (cs.drop (i + 1)) <;> simp
def downAt (cs : List Int) (i : Nat) : Bool := i == 0 || decide (cs.getD i 0 > cs.getD (i - 1) 0)
theorem tT_1 (cs : List Int) (i : Nat) (h : i < cs.length) (hm : cs.length ≤ 12) : tenter_Tight_1.f i cs = some (!downAt cs i) := by
  unfold tenter_Tight_1.f downAt
  cases i with
  | zero => rw [if_neg (by omega)]; simp
  | succ j =>
    rw [if_pos (by omega), if_pos (by omega), if_pos (by omega), show wrap64 (((j + 1 : Nat) : Int) - 1) = (j : Int) by rw [w64_of (by omega) (by omega)]; omega, if_pos (by omega), if_pos (by omega), rd_nat cs _ h, rd_nat cs j (by omega)]
    simp only [List.getD_eq_getElem?_getD, List.getElem?_eq_getElem h, Nat.add_sub_cancel, List.getElem?_eq_getElem (show j < cs.length by omega), Option.getD_some]
    by_cases hh : cs[j + 1] ≤ cs[j]
    · simp [hh]
    · simp [hh]; omega
theorem tT_l0 (g s L : Int) (l0 : List S43) (l1 : List Int) (cs : List Int) (hS : Sm s l0 cs) (hm : cs.length ≤ 12) : ∀ (d i k : Nat) (x : Int), i + d = cs.length → 0 ≤ x → x ≤ 3000 * i →
    tenter_Tight.l0 (k + d + 1) [] L x cs (cs.length : Int) i cs l0 l1 g s (l0.map (hangOf s)) = if afrom (downAt cs) i d = true then tenter_Tight.l1 k [] L (x + sumF S36.f1 (Hg s l0) (cs.drop i)) cs (cs.length : Int) 0 l0 l1 g s (l0.map (hangOf s)) else some ([], 7)
  | 0, i, k, x, hd, hx, hx2 => by
    rw [tenter_Tight.l0, if_neg (by omega), List.drop_of_length_le (by omega)]
    simp [sumF, afrom]
  | d + 1, i, k, x, hd, hx, hx2 => by
    have hlt : i < cs.length := by omega
    have hc := hS.inr cs[i] (List.getElem_mem _)
    have hb := hS.b cs[i] (List.getElem_mem _)
    rw [show k + (d + 1) + 1 = (k + d + 1) + 1 by omega, tenter_Tight.l0, if_pos (by omega), if_pos (show (0 : Int) ≤ i by omega), if_pos (by omega), tT_1 cs i hlt hm, rd_nat cs i hlt, List.drop_eq_getElem_cons hlt]
    simp only [Option.bind_some, sumF]
    by_cases h : downAt cs i = true
    · have ea : afrom (downAt cs) i (d + 1) = afrom (downAt cs) (i + 1) d := by rw [afrom, h, Bool.true_and]
      rw [if_neg (by simp [h]), if_pos hc.1, if_pos (by simpa using hc.2), rd36_map s l0 _ hc.1 hc.2, w64_of (n := x + _) (by omega) (by omega), nx i (by omega), tT_l0 g s L l0 l1 cs hS hm d (i + 1) k _ (by omega) (by omega) (by simp; omega), Int.add_assoc]
      by_cases hh : afrom (downAt cs) (i + 1) d = true
      · rw [if_pos hh, if_pos (ea.trans hh)]
      · rw [if_neg hh, if_neg (fun h' => hh (ea.symm.trans h'))]
    · have hf : downAt cs i = false := by simpa using h
      rw [if_pos (by simpa using h), if_neg (by rw [afrom, hf]; simp)]
theorem afrom_and (p q : Nat → Bool) : ∀ d i, afrom (fun j => p j && q j) i d = (afrom p i d && afrom q i d)
  | 0, i => rfl
  | d + 1, i => by
    unfold afrom
    rw [afrom_and p q d (i + 1)]
    cases p i <;> cases q i <;> simp
theorem all_afrom (p : Int → Bool) (cs : List Int) : ∀ d i, i + d = cs.length → (cs.drop i).all p = afrom (fun j => p (cs.getD j 0)) i d
  | 0, i, h => by rw [List.drop_of_length_le (by omega)]; rfl
  | d + 1, i, h => by
    have hlt : i < cs.length := by omega
    rw [List.drop_eq_getElem_cons hlt, List.all_cons, all_afrom p cs d (i + 1) (by omega), afrom]
    simp only [List.getD_eq_getElem?_getD, List.getElem?_eq_getElem hlt, Option.getD_some]
def ansT (o : Option (List Int)) : List Int × Int := match o with | some r => (r, 0) | none => ([], 9)
def askOk (l0 : List S43) (l1 : List Int) (fr : Int) (cs : List Int) : Bool :=
  isIn 0 ((l1.length : Int) - 1) fr && decide (0 < cs.length) && afrom (fun j => isIn 0 ((l0.length : Int) - 1) (cs.getD j 0) && downAt cs j) 0 cs.length
theorem tT_j0 (g s fr : Int) (l0 : List S43) (l1 : List Int) (cs : List Int) (hc : chk l0 l1 g s = 0) (hm : cs.length ≤ 12) (k : Nat) (h0 : 0 ≤ fr) (h1 : fr < (l1.length : Int)) (hpos : 0 < cs.length) (hin : ∀ c ∈ cs, 0 ≤ c ∧ c < (l0.length : Int)) :
    tenter_Tight.j0 (k + cs.length + cs.length + 3) fr [] false l0 l1 g s cs l0 l1 g s (l0.map (hangOf s)) =
      some (if afrom (downAt cs) 0 cs.length = true then ansT (greedy (Hg s l0) (rd l1 fr - g * ((cs.length : Int) - 1)) cs) else ([], 7)) := by
  obtain ⟨o1, o2, o3, o4, o5, o6, o7, o8, o9⟩ := chk_ok hc
  have hfr : 1 ≤ rd l1 fr ∧ rd l1 fr ≤ 2000 := by
    obtain ⟨j, rfl⟩ : ∃ j : Nat, fr = j := ⟨fr.toNat, by omega⟩
    rw [rd_at l1 j (by omega)]; exact o5 _ (List.getElem_mem _)
  have hgl : 0 ≤ g * ((cs.length : Int) - 1) ∧ g * ((cs.length : Int) - 1) ≤ 50 * 11 := ⟨Int.mul_nonneg o6 (by omega), Int.mul_le_mul o7 (by omega) (by omega) (by omega)⟩
  have hS := sm_of (cs := cs) hc hin
  rw [tenter_Tight.j0, if_neg (by simp), if_pos h0, if_pos h1, w64_of (n := (cs.length : Int) - 1) (by omega) (by omega), w64_of (n := g * _) (by omega) (by omega), w64_of (n := rd l1 fr - _) (by omega) (by omega)]
  have a0 := tT_l0 g s (rd l1 fr - g * ((cs.length : Int) - 1)) l0 l1 cs hS hm cs.length 0 (k + cs.length + 1) 0 (by omega) (by omega) (by omega)
  rw [show ((0 : Nat) : Int) = 0 from rfl] at a0
  rw [show k + cs.length + cs.length + 2 = k + cs.length + 1 + cs.length + 1 by omega, a0]
  by_cases h : afrom (downAt cs) 0 cs.length = true
  · rw [if_pos h, if_pos h]
    have a1 := tT_l1 g s l0 l1 cs hS hm cs.length 0 k [] (rd l1 fr - g * ((cs.length : Int) - 1)) (by omega) (by simp) (by omega) (by omega)
    rw [show ((0 : Nat) : Int) = 0 from rfl, List.drop_zero] at a1
    rw [List.drop_zero, Int.zero_add, a1]
    unfold ansT
    cases greedy (Hg s l0) (rd l1 fr - g * ((cs.length : Int) - 1)) cs <;> simp
  · rw [if_neg h, if_neg h]
theorem tT_eq (g s fr : Int) (l0 : List S43) (l1 : List Int) (cs : List Int) (hn : l0.length ≤ 10) (hn1 : l1.length ≤ 6) (hm : cs.length ≤ 12) (k : Nat) (hk : 100 < k) :
    tenter_Tight.f k l0 l1 g s fr cs = some (if chk l0 l1 g s = 0 then if askOk l0 l1 fr cs = true then ansT (greedy (Hg s l0) (rd l1 fr - g * ((cs.length : Int) - 1)) cs) else ([], 7) else ([], chk l0 l1 g s)) := by
  unfold tenter_Tight.f
  rw [open_eq k l0 l1 g s (by omega) (by omega)]
  simp only [Option.bind_some]
  by_cases hc : chk l0 l1 g s = 0
  · simp only [if_pos hc, if_true]
    rw [within_eq, w64_of (n := (l1.length : Int) - 1) (by omega) (by omega), within_eq, w64_of (n := (l0.length : Int) - 1) (by omega) (by omega)]
    simp only [Option.bind_some, List.all_cons, List.all_nil, Bool.and_true]
    obtain ⟨K, rfl⟩ : ∃ K, k = K + cs.length + cs.length + 3 := ⟨k - cs.length - cs.length - 3, by omega⟩
    have jt : tenter_Tight.j0 (K + cs.length + cs.length + 3) fr [] true l0 l1 g s cs l0 l1 g s (l0.map (hangOf s)) = some ([], 7) := by rw [tenter_Tight.j0, if_pos rfl]
    have hall := all_afrom (isIn 0 ((l0.length : Int) - 1)) cs cs.length 0 (by omega)
    rw [List.drop_zero] at hall
    have hask : askOk l0 l1 fr cs = (isIn 0 ((l1.length : Int) - 1) fr && decide (0 < cs.length) && (cs.all (isIn 0 ((l0.length : Int) - 1)) && afrom (downAt cs) 0 cs.length)) := by
      unfold askOk; rw [afrom_and, hall]
    by_cases hf : isIn 0 ((l1.length : Int) - 1) fr = true
    · rw [if_pos hf]
      have hf' := isIn_iff.1 hf
      by_cases hz : (cs.length : Int) = 0
      · rw [if_pos hz, show ((cs.length : Int) == 0) = true by simpa using hz, jt, if_neg (by rw [hask]; simp; omega)]
      · rw [if_neg hz]
        by_cases ha : cs.all (isIn 0 ((l0.length : Int) - 1)) = true
        · rw [ha, Bool.not_true, tT_j0 g s fr l0 l1 cs hc hm K (by omega) (by omega) (by omega) (fun c hcc => inr l0 c (List.all_eq_true.1 ha c hcc))]
          have e : askOk l0 l1 fr cs = afrom (downAt cs) 0 cs.length := by rw [hask, hf, ha]; simp; omega
          by_cases h : afrom (downAt cs) 0 cs.length = true
          · rw [if_pos h, if_pos (e.trans h)]
          · rw [if_neg h, if_neg (fun h' => h (e.symm.trans h'))]
        · have ha' : cs.all (isIn 0 ((l0.length : Int) - 1)) = false := by simpa using ha
          rw [ha', Bool.not_false, jt, if_neg (by rw [hask, ha']; simp)]
    · have hf' : isIn 0 ((l1.length : Int) - 1) fr = false := by simpa using hf
      rw [if_neg hf, hf', Bool.not_false, jt, if_neg (by rw [hask, hf']; simp)]
  · simp only [if_neg hc]
theorem TT_l (g s fr : Int) (l0 : List S43) (l1 : List Int) (cs x9 : List Int) (x10 e : Int) (hn : l0.length ≤ 10) (hm : cs.length ≤ 12) : ∀ (d i k : Nat) (b : Bool), i + d = cs.length →
    walkmilllaw05_TenterTights.l0 (k + d + 1) fr cs x9 x10 e b i l0 l1 g s = walkmilllaw05_TenterTights.j4 k fr cs x9 x10 (if (b && afrom (fun j => isIn 0 ((l0.length : Int) - 1) (cs.getD j 0) && downAt cs j) i d) = true then e else 7) l0 l1 g s
  | 0, i, k, b, hd => by
    rw [walkmilllaw05_TenterTights.l0, if_neg (by omega), afrom]
    cases b <;> simp
  | d + 1, i, k, b, hd => by
    have hlt : i < cs.length := by omega
    have ih := fun b => TT_l g s fr l0 l1 cs x9 x10 e hn hm d (i + 1) k b (by omega)
    rw [show k + (d + 1) + 1 = (k + d + 1) + 1 by omega, walkmilllaw05_TenterTights.l0, if_pos (by omega), if_pos (show (0 : Int) ≤ i by omega), rd_nat cs i hlt, rcloth_eq l0 l1 g s _ (by omega), nx i (by omega)]
    simp only [Option.bind_some]
    have eg : cs.getD i 0 = cs[i] := by simp [List.getD_eq_getElem?_getD, List.getElem?_eq_getElem hlt]
    have ea : afrom (fun j => isIn 0 ((l0.length : Int) - 1) (cs.getD j 0) && downAt cs j) i (d + 1) = ((isIn 0 ((l0.length : Int) - 1) cs[i] && downAt cs i) && afrom (fun j => isIn 0 ((l0.length : Int) - 1) (cs.getD j 0) && downAt cs j) (i + 1) d) := by rw [afrom, eg]
    simp only [ea]
    cases b with
    | false => rw [if_neg (by simp), ih false]; simp
    | true =>
      rw [if_pos rfl]
      by_cases h1 : isIn 0 ((l0.length : Int) - 1) cs[i] = true
      · rw [if_pos h1, h1]
        cases i with
        | zero =>
          rw [if_pos (by simp), ih true]
          simp [downAt]
        | succ j =>
          rw [if_neg (by omega), show wrap64 (((j + 1 : Nat) : Int) - 1) = (j : Int) by rw [w64_of (by omega) (by omega)]; omega, if_pos (by omega), if_pos (by omega), rd_nat cs j (by omega), ih]
          have : downAt cs (j + 1) = decide (cs[j + 1] > cs[j]) := by
            unfold downAt
            simp only [List.getD_eq_getElem?_getD, List.getElem?_eq_getElem hlt, Nat.add_sub_cancel, List.getElem?_eq_getElem (show j < cs.length by omega), Option.getD_some]
            simp
          rw [this]; simp
      · have h1' : isIn 0 ((l0.length : Int) - 1) cs[i] = false := by simpa using h1
        rw [if_neg h1, h1', ih false]; simp
theorem TT_j4 (k : Nat) (fr : Int) (cs x9 : List Int) (x10 e : Int) (l0 : List S43) (l1 : List Int) (g s : Int) : walkmilllaw05_TenterTights.j4 (k + 1) fr cs x9 x10 e l0 l1 g s =
    if e = 0 then (if 0 ≤ fr then (if fr < (l1.length : Int) then ((walkmillref05_Tight.f k l0 l1 g s (rd l1 fr) cs).bind fun bt132 => (if bt132.2 = true then (if x10 = 0 then ((walkmillref05_Ints.f k x9 bt132.1).bind fun t136 => (if t136 = true then ((walkmilllaw05_known.f).bind fun t137 => (some t137)) else (some false))) else (some false)) else (if x10 = 9 then (if (x9.length : Int) = 0 then ((walkmilllaw05_known.f).bind fun t138 => (some t138)) else (some false)) else (some false)))) else (none)) else (none)) else (if x10 = e then (if (x9.length : Int) = 0 then ((walkmilllaw05_known.f).bind fun t139 => (some t139)) else (some false)) else (some false)) := rfl
theorem TT_j4_err (k : Nat) (fr : Int) (cs : List Int) (e : Int) (l0 : List S43) (l1 : List Int) (g s : Int) (h : ¬ e = 0) : walkmilllaw05_TenterTights.j4 (k + 1) fr cs [] e e l0 l1 g s = some true := by
  rw [TT_j4, if_neg h]
  simp only [if_true, List.length_nil, Int.natCast_zero]; rfl
theorem greedy_len (H : Int → S36) : ∀ (cs : List Int) (L : Int) (y : List Int), greedy H L cs = some y → y.length = cs.length
  | [], L, y, h => by unfold greedy at h; split at h <;> cases h; rfl
  | c :: r, L, y, h => by
    unfold greedy at h; split at h
    · cases h
    · obtain ⟨z, hz, rfl⟩ := Option.map_eq_some_iff.1 h
      simp [greedy_len H r _ z hz]
theorem TT_j4_ok (k : Nat) (fr : Int) (cs : List Int) (l0 : List S43) (l1 : List Int) (g s : Int) (hc : chk l0 l1 g s = 0) (hm : cs.length ≤ 12) (hk : fuelT 13 < k) (h0 : 0 ≤ fr) (h1 : fr < (l1.length : Int)) (hpos : 0 < cs.length) (hin : ∀ c ∈ cs, 0 ≤ c ∧ c < (l0.length : Int)) :
    walkmilllaw05_TenterTights.j4 (k + 1) fr cs (ansT (greedy (Hg s l0) (rd l1 fr - g * ((cs.length : Int) - 1)) cs)).1 (ansT (greedy (Hg s l0) (rd l1 fr - g * ((cs.length : Int) - 1)) cs)).2 0 l0 l1 g s = some true := by
  obtain ⟨o1, o2, o3, o4, o5, o6, o7, o8, o9⟩ := chk_ok hc
  have hfr : 1 ≤ rd l1 fr ∧ rd l1 fr ≤ 2000 := by
    obtain ⟨j, rfl⟩ : ∃ j : Nat, fr = j := ⟨fr.toNat, by omega⟩
    rw [rd_at l1 j (by omega)]; exact o5 _ (List.getElem_mem _)
  have hgl : 0 ≤ g * ((cs.length : Int) - 1) ∧ g * ((cs.length : Int) - 1) ≤ 50 * 11 := ⟨Int.mul_nonneg o6 (by omega), Int.mul_le_mul o7 (by omega) (by omega) (by omega)⟩
  have hS := sm_of (cs := cs) hc hin
  have hr := rT_f g s l0 l1 o6 o7 cs hS hm k (rd l1 fr - g * ((cs.length : Int) - 1)) (by unfold fuelT at hk ⊢; omega) (by omega) (by omega)
  rw [if_neg (by intro h; rw [h] at hpos; simp at hpos), show rd l1 fr - g * ((cs.length : Int) - 1) + g * ((cs.length : Int) - 1) = rd l1 fr by omega] at hr
  rw [TT_j4, if_pos rfl, if_pos h0, if_pos h1, hr]
  simp only [Option.bind_some]
  cases hg : greedy (Hg s l0) (rd l1 fr - g * ((cs.length : Int) - 1)) cs with
  | none => simp only [toR, ansT]; rfl
  | some y =>
    have hl := greedy_len _ _ _ _ hg
    simp only [toR, ansT, if_true, rInts_same k y (by omega) (by unfold fuelT at hk; omega), Option.bind_some]; rfl
theorem TT_j1 (k : Nat) (fr : Int) (cs x9 : List Int) (x10 : Int) (c : Bool) (l0 : List S43) (l1 : List Int) (g s : Int) : walkmilllaw05_TenterTights.j1 (k + 1) fr cs x9 x10 c l0 l1 g s =
    if c = true then (some false) else ((walkmillref05_Check.f k l0 l1 g s).bind fun t125 => (if t125 = 0 then ((walkmillref05_In.f fr 0 (wrap64 ((l1.length : Int) - 1))).bind fun t126 => (if t126 = true then (walkmilllaw05_TenterTights.j2 k fr cs x9 x10 t125 (decide ((cs.length : Int) > 0)) l0 l1 g s) else (walkmilllaw05_TenterTights.j2 k fr cs x9 x10 t125 false l0 l1 g s))) else (walkmilllaw05_TenterTights.j4 k fr cs x9 x10 t125 l0 l1 g s))) := rfl
theorem TT_j2 (k : Nat) (fr : Int) (cs x9 : List Int) (x10 e : Int) (b : Bool) (l0 : List S43) (l1 : List Int) (g s : Int) : walkmilllaw05_TenterTights.j2 (k + 1) fr cs x9 x10 e b l0 l1 g s = walkmilllaw05_TenterTights.l0 k fr cs x9 x10 e b 0 l0 l1 g s := rfl
theorem TenterTights_yes (l0 : List S43) (l1 : List Int) (g s fr : Int) (cs : List Int) : ∃ k, walkmilllaw05_TenterTights.f k l0 l1 g s fr cs = some true := by
  obtain ⟨K, hK⟩ : ∃ K : Nat, fuelT 13 < K := ⟨_, Nat.lt_succ_self _⟩
  have hK2 : 70000 < K := by unfold fuelT at hK; omega
  refine ⟨K + 1 + cs.length + 1 + 1 + 1 + 1, ?_⟩
  have kn : ∀ k, walkmilllaw05_TenterTights.j0 (k + 1) fr cs true l0 l1 g s = some true := fun k => rfl
  unfold walkmilllaw05_TenterTights.f walkmilllaw05_large.f
  by_cases h : (l0.length : Int) > 10
  · rw [if_pos h]; simp only [Option.bind_some, if_true]; rw [kn]
  rw [if_neg h]
  simp only [Option.bind_some]
  by_cases h2 : (l1.length : Int) > 6
  · rw [if_pos (by simpa using h2), kn]
  rw [if_neg (by simpa using h2)]
  by_cases h3 : (cs.length : Int) > 12
  · rw [show decide ((cs.length : Int) > 12) = true by simpa using h3, kn]
  rw [show decide ((cs.length : Int) > 12) = false by simpa using h3, walkmilllaw05_TenterTights.j0, if_neg (by simp), rCopy_eq l0 l1 g s (by omega) (by omega)]
  simp only [Option.bind_some, List.nil_append, List.length_nil, Nat.zero_add]
  rw [if_pos (by omega), tT_eq g s fr l0 l1 cs (by omega) (by omega) (by omega) _ (by omega), rSame_eq _ l0 l1 g s (by omega) (by omega) (by omega), rInts_same _ cs (by omega) (by omega)]
  simp only [Option.bind_some, if_true, Bool.not_true]
  rw [TT_j1, if_neg (by simp), rCheck_eq _ l0 l1 g s (by omega) (by omega) (by omega)]
  simp only [Option.bind_some]
  by_cases hc : chk l0 l1 g s = 0
  · simp only [if_pos hc]
    rw [rIn_eq, w64_of (n := (l1.length : Int) - 1) (by omega) (by omega)]
    simp only [Option.bind_some]
    have hall := all_afrom (isIn 0 ((l0.length : Int) - 1)) cs cs.length 0 (by omega)
    rw [List.drop_zero] at hall
    have e0 : (if isIn 0 ((l1.length : Int) - 1) fr = true then walkmilllaw05_TenterTights.j2 (K + 1 + cs.length + 1 + 1) fr cs (if askOk l0 l1 fr cs = true then ansT (greedy (Hg s l0) (rd l1 fr - g * ((cs.length : Int) - 1)) cs) else ([], 7)).1 (if askOk l0 l1 fr cs = true then ansT (greedy (Hg s l0) (rd l1 fr - g * ((cs.length : Int) - 1)) cs) else ([], 7)).2 (chk l0 l1 g s) (decide ((cs.length : Int) > 0)) l0 l1 g s
        else walkmilllaw05_TenterTights.j2 (K + 1 + cs.length + 1 + 1) fr cs (if askOk l0 l1 fr cs = true then ansT (greedy (Hg s l0) (rd l1 fr - g * ((cs.length : Int) - 1)) cs) else ([], 7)).1 (if askOk l0 l1 fr cs = true then ansT (greedy (Hg s l0) (rd l1 fr - g * ((cs.length : Int) - 1)) cs) else ([], 7)).2 (chk l0 l1 g s) false l0 l1 g s) =
        walkmilllaw05_TenterTights.j2 (K + 1 + cs.length + 1 + 1) fr cs (if askOk l0 l1 fr cs = true then ansT (greedy (Hg s l0) (rd l1 fr - g * ((cs.length : Int) - 1)) cs) else ([], 7)).1 (if askOk l0 l1 fr cs = true then ansT (greedy (Hg s l0) (rd l1 fr - g * ((cs.length : Int) - 1)) cs) else ([], 7)).2 (chk l0 l1 g s) (isIn 0 ((l1.length : Int) - 1) fr && decide (0 < cs.length)) l0 l1 g s := by
      by_cases hf : isIn 0 ((l1.length : Int) - 1) fr = true
      · rw [if_pos hf, hf, Bool.true_and, show decide ((cs.length : Int) > 0) = decide (0 < cs.length) by simp]
      · rw [if_neg hf, show isIn 0 ((l1.length : Int) - 1) fr = false by simpa using hf, Bool.false_and]
    rw [e0, TT_j2]
    have hl := fun x9 x10 b => TT_l g s fr l0 l1 cs x9 x10 (chk l0 l1 g s) (by omega) (by omega) cs.length 0 (K + 1) b (by omega)
    rw [show ((0 : Nat) : Int) = 0 from rfl] at hl
    rw [hl]
    by_cases ha : askOk l0 l1 fr cs = true
    · simp only [if_pos ha]
      rw [if_pos (by unfold askOk at ha; exact ha), hc]
      unfold askOk at ha
      rw [afrom_and, ← hall] at ha
      simp only [Bool.and_eq_true, decide_eq_true_eq] at ha
      have hf' := isIn_iff.1 ha.1.1
      exact TT_j4_ok K fr cs l0 l1 g s hc (by omega) hK (by omega) (by omega) ha.1.2 (fun c hcc => inr l0 c (List.all_eq_true.1 ha.2.1 c hcc))
    · simp only [if_neg ha]
      rw [if_neg (by unfold askOk at ha; exact ha)]
      exact TT_j4_err K fr cs 7 l0 l1 g s (by decide)
  · simp only [if_neg hc]
    exact TT_j4_err _ fr cs _ l0 l1 g s hc
end Go.Proofs.YtikmfpjcdcckeaaGreatDoor.P
namespace Go.Proofs.YtikmfpjcdcckeaaGreatDoor.P
open Go.RowKit Go.ChangeShapes Go.WideShapes Go.Deep Go.Proofs.YtikmfpjcdcckeaaGreatDoorW.PrintWords Go.Proofs.YtikmfpjcdcckeaaGreatDoorW.PrintLast Go.Proofs.YtikmfpjcdcckeaaGreatDoorW.PrintMore
structure Opens {α : Type} (P : Program) (d : Kd α) (t : TypeId) (B : α → Prop) : Prop where
  sz : P.cellsOf t = d.sz
  op : ∀ (H : Type) (enc : TypeId × Value → H) (w : World) (base : Nat) (spare : Nat → Bool) (held : Bool) (n : Nat) (cs : List Value) (x : DataW H × List MemPlace), DataW.trod enc P w base spare held n t cs = some x → ∃ p, d.K w p cs ∧ B p
theorem Opens.int {P : Program} {t : TypeId} {k : IntKind} (ht : P.underlying t = some (.int k)) (hc : P.cellsOf t = 1) : Opens P (Kd.int k) t (fun n => (Lit.int k n).wf = true) :=
  ⟨hc, fun H enc w base spare held n cs x h => by
    obtain ⟨m, rfl, _, hw⟩ := DataW.trod_int ht h
    exact ⟨m, rfl, hw⟩⟩
theorem Opens.bool {P : Program} {t : TypeId} (ht : P.underlying t = some .bool) (hc : P.cellsOf t = 1) : Opens P Kd.bool t (fun _ => True) :=
  ⟨hc, fun H enc w base spare held n cs x h => by
    obtain ⟨b, rfl, _⟩ := DataW.trod_bool ht h
    exact ⟨b, rfl, trivial⟩⟩
theorem Opens.imp {α : Type} {P : Program} {d : Kd α} {t : TypeId} {B B' : α → Prop} (h : Opens P d t B) (hb : ∀ x, B x → B' x) : Opens P d t B' :=
  ⟨h.sz, fun H enc w base spare held n cs x hx => by obtain ⟨p, h1, h2⟩ := h.op H enc w base spare held n cs x hx; exact ⟨p, h1, hb p h2⟩⟩
theorem choose_list {α : Type} {Q : Nat → α → Prop} : ∀ (n : Nat), (∀ i, i < n → ∃ p, Q i p) → ∃ l : List α, l.length = n ∧ ∀ i p, l[i]? = some p → Q i p
  | 0, _ => ⟨[], rfl, fun i p h => by simp at h⟩
  | n + 1, h => by
    obtain ⟨l, hl, hq⟩ := choose_list n (fun i hi => h i (by omega))
    obtain ⟨p, hp⟩ := h n (by omega)
    refine ⟨l ++ [p], by simp [hl], fun i q hi => ?_⟩
    rcases Nat.lt_or_ge i l.length with h1 | h1
    · rw [List.getElem?_append_left h1] at hi
      exact hq i q hi
    · have : i = n := by
        have := (List.getElem?_eq_some_iff.1 hi).1
        simp at this
        omega
      subst this
      rw [List.getElem?_append_right h1, hl, Nat.sub_self] at hi
      obtain rfl : p = q := by simpa using hi
      exact hp
theorem Opens.slice {α : Type} {P : Program} {d : Kd α} {t e : TypeId} {B : α → Prop} (h : Opens P d e B) (ht : P.underlying t = some (.slice e)) (hc : P.cellsOf t = 1) : Opens P (Kd.slice e d) t (fun l => ∀ x ∈ l, B x) :=
  ⟨hc, fun H enc w base spare held n cs x hx => by
    rcases open_slice ht hx with ⟨rfl, _⟩ | ⟨a, len, cap, m, n', D, Pl, rfl, hb, hl, hm, hmm, _, hi⟩
    · exact ⟨[], ⟨none, 0, rfl, Nat.le_refl _, Kd.C_nil _ _⟩, fun x hx => by cases hx⟩
    · obtain ⟨l, hll, hq⟩ := choose_list (Q := fun i p => (∃ cs', d.K w p cs' ∧ ∀ j, j < d.sz → w.cell? (a.add (i * d.sz + j)) = cs'[j]?) ∧ B p) len (fun i hi' => by
        obtain ⟨cs', hcs, htr⟩ := hi i (by rw [hmm]; split <;> omega)
        obtain ⟨p, hk, hp⟩ := h.op H enc w base spare held n' cs' _ htr
        obtain ⟨_, hcl, hat⟩ := World.cells?_some hcs
        rw [h.sz] at hat
        exact ⟨p, ⟨cs', hk, fun j hj => by
          have := hat j hj
          rw [Go.Deep.add_add] at this
          exact this⟩, hp⟩)
      refine ⟨l, ⟨some a, cap, by rw [hll], by rw [hll]; exact hl, ⟨rfl, by rw [hll]; simp only [maxLen] at hm; omega, fun h0 => ⟨a, rfl, fun j p hj => ?_⟩⟩⟩, fun x hx => ?_⟩
      · obtain ⟨⟨cs', hk, hat⟩, _⟩ := hq j p hj
        refine ⟨cs', d.K_len hk, hk, fun i u hu => ?_⟩
        have hi' : i < d.sz := by have := (List.getElem?_eq_some_iff.1 hu).1; rw [d.K_len hk] at this; exact this
        rw [hat i hi', hu]
      · obtain ⟨i, hi'⟩ := List.getElem?_of_mem hx
        exact (hq i x hi').2⟩
def OpensS {α : Type} (P : Program) (fs : Array Field) (j off : Nat) (d : Kd α) (B : α → Prop) : Prop :=
  ∀ (H : Type) (enc : TypeId × Value → H) (w : World) (base : Nat) (spare : Nat → Bool) (held : Bool) (n : Nat) (cs : List Value) (xs : List (DataW H × List MemPlace)), xs.length = fs.size →
    (∀ (i : Nat) (f : Field), fs[i]? = some f → DataW.trod enc P w base spare held n f.type ((cs.drop f.offset).take (P.cellsOf f.type)) = xs[i]?) → ∃ p, d.K w p ((cs.drop off).take d.sz) ∧ B p
theorem OpensS.one {α : Type} {P : Program} {fs : Array Field} {j off : Nat} {d : Kd α} {B : α → Prop} (f : Field) (hf : fs[j]? = some f) (ho : f.offset = off) (h : Opens P d f.type B) : OpensS P fs j off d B := by
  intro H enc w base spare held n cs xs hl hx
  have h1 := hx j f hf
  have hj : j < xs.length := by rw [hl]; exact (Array.getElem?_eq_some_iff.1 hf).1
  rw [List.getElem?_eq_getElem hj, ho, h.sz] at h1
  exact h.op H enc w base spare held n _ _ h1
theorem OpensS.cons {α β : Type} {P : Program} {fs : Array Field} {j off : Nat} {d : Kd α} {d' : Kd β} {B : α → Prop} {B' : β → Prop} (h : OpensS P fs j off d B) (h' : OpensS P fs (j + 1) (off + d.sz) d' B') : OpensS P fs j off (Kd.pair d d') (fun p => B p.1 ∧ B' p.2) := by
  intro H enc w base spare held n cs xs hl hx
  obtain ⟨p, h1, h2⟩ := h H enc w base spare held n cs xs hl hx
  obtain ⟨q, h3, h4⟩ := h' H enc w base spare held n cs xs hl hx
  refine ⟨(p, q), ⟨_, _, ?_, h1, h3⟩, h2, h4⟩
  show (cs.drop off).take (d.sz + d'.sz) = _
  rw [List.take_add, List.drop_drop]
theorem OpensS.iso {α β : Type} {P : Program} {fs : Array Field} {j off : Nat} {d : Kd α} {B : α → Prop} (h : OpensS P fs j off d B) (f : β → α) (g : α → β) (hg : ∀ a, f (g a) = a) : OpensS P fs j off (Kd.iso d f) (fun y => B (f y)) := by
  intro H enc w base spare held n cs xs hl hx
  obtain ⟨p, h1, h2⟩ := h H enc w base spare held n cs xs hl hx
  exact ⟨g p, by show d.K w (f (g p)) _; rw [hg]; exact h1, by show B (f (g p)); rw [hg]; exact h2⟩
theorem Opens.struct {α : Type} {P : Program} {fs : Array Field} {d : Kd α} {t : TypeId} {B : α → Prop} (h : OpensS P fs 0 0 d B) (ht : P.underlying t = some (.struct fs)) (hc : P.cellsOf t = d.sz) : Opens P d t B :=
  ⟨hc, fun H enc w base spare held n cs x hx => by
    obtain ⟨xs, n', _, _, hcl, hl, hf⟩ := DataW.trod_struct ht hx
    obtain ⟨p, h1, h2⟩ := h H enc w base spare held n' cs xs hl hf
    refine ⟨p, ?_, h2⟩
    rw [List.drop_zero, List.take_of_length_le (by rw [hcl, hc]; exact Nat.le_refl _)] at h1
    exact h1⟩
theorem Opens.array {α : Type} {P : Program} {fs : Array Field} {d : Kd α} {t e : TypeId} {n : Nat} {B : α → Prop} (h : OpensS P fs 0 0 d B) (ht : P.underlying t = some (.array n e)) (hc : P.cellsOf t = d.sz) (he : P.cellsOf e = 1) (hn : fs.size = n) (hf : ∀ i : Fin fs.size, fs[i].type = e ∧ fs[i].offset = i.val) : Opens P d t B :=
  ⟨hc, fun H enc w base spare held n' cs x hx => by
    obtain ⟨xs, m, _, _, hcl, hl, hg⟩ := DataW.trod_array ht hx
    obtain ⟨p, h1, h2⟩ := h H enc w base spare held m cs xs (by rw [hl, hn]) (fun i f hi => by
      obtain ⟨hi', rfl⟩ := Array.getElem?_eq_some_iff.1 hi
      obtain ⟨e1, e2⟩ := hf ⟨i, hi'⟩
      have e1' : fs[i].type = e := e1
      have e2' : fs[i].offset = i := e2
      have := hg i (by rw [← hn]; exact hi')
      rw [he, Nat.mul_one] at this
      rw [e1', e2', he]; exact this)
    refine ⟨p, ?_, h2⟩
    rw [List.drop_zero, List.take_of_length_le (by rw [hcl, hc]; exact Nat.le_refl _)] at h1
    exact h1⟩
theorem Opens.arg_slice {α : Type} {P : Program} {d : Kd α} {t e : TypeId} {B : List α → Prop} (h : Opens P (Kd.slice e d) t B) {H : Type} {enc : TypeId × Value → H} {w : World} {base : Nat} {spare : Nat → Bool} {held : Bool} {v : Value} {x : DataW H} {ps : List MemPlace} {a : Option Addr} {len cap : Nat} (hv : v = .slice a len cap) (hx : DataW.Trod enc P w base spare held t v x ps) :
    ∃ l : List α, len = l.length ∧ l.length ≤ cap ∧ Kd.C d w a l.length l ∧ B l := by
  obtain ⟨n, hn⟩ := hx
  subst hv
  obtain ⟨l, ⟨A, c, he, hl, hr⟩, hb⟩ := h.op H enc w base spare held n _ _ hn
  have he' : Value.slice a len cap = .slice A l.length c := by simpa [Value.cells] using he
  cases he'
  exact ⟨l, rfl, hl, hr, hb⟩
theorem Opens.arg {α : Type} {P : Program} {d : Kd α} {t : TypeId} {B : α → Prop} (h : Opens P d t B) {H : Type} {enc : TypeId × Value → H} {w : World} {base : Nat} {spare : Nat → Bool} {held : Bool} {v : Value} {x : DataW H} {ps : List MemPlace} (hx : DataW.Trod enc P w base spare held t v x ps) :
    ∃ p : α, d.K w p v.cells.toList ∧ B p := by
  obtain ⟨n, hn⟩ := hx
  exact h.op H enc w base spare held n _ _ hn
theorem agg_cells {v : Value} {l : List Value} (h : v.cells.toList = l) (hl : 2 ≤ l.length) : v = .agg l.toArray := by
  cases v with
  | agg x => simp only [Value.cells] at h; rw [← h]
  | _ => simp only [Value.cells] at h; subst h; simp at hl
end Go.Proofs.YtikmfpjcdcckeaaGreatDoor.P
namespace Go.Proofs.YtikmfpjcdcckeaaGreatDoor.P
open Go.RowKit Go.Proofs.YtikmfpjcdcckeaaGreatDoorW.PrintWords
def IsK (k : IntKind) (n : Int) : Prop := (Lit.int k n).wf = true
theorem O_i64 : Opens Tryz.prog (Kd.int .i64) 3 (IsK .i64) := Opens.int Tryz.underlying3 (by kernel_rfl)
def B36 (x : S36) : Prop := (IsK .i64) x.f0 ∧ (IsK .i64) x.f1
theorem O36 : Opens Tryz.prog k36 36 B36 := by
  refine Opens.struct ?_ Tryz.underlying36 (by kernel_rfl)
  refine OpensS.iso (d := (Kd.pair (Kd.int .i64) (Kd.int .i64))) (B := fun p => (IsK .i64) p.1 ∧ (IsK .i64) p.2) ?_ (fun x : S36 => (x.f0, x.f1)) (fun p => ⟨p.1, p.2⟩) (fun _ => rfl)
  refine OpensS.cons (B := IsK .i64) (B' := fun p : Int => (IsK .i64) p) ?_ ?_
  · exact OpensS.one _ rfl rfl O_i64
  exact OpensS.one _ rfl rfl O_i64
def B43 (x : S43) : Prop := (B36) x.f0 ∧ (B36) x.f1
theorem O43 : Opens Tryz.prog k43 43 B43 := by
  refine Opens.struct ?_ Tryz.underlying43 (by kernel_rfl)
  refine OpensS.iso (d := (Kd.pair k36 k36)) (B := fun p => (B36) p.1 ∧ (B36) p.2) ?_ (fun x : S43 => (x.f0, x.f1)) (fun p => ⟨p.1, p.2⟩) (fun _ => rfl)
  refine OpensS.cons (B := B36) (B' := fun p : S36 => (B36) p) ?_ ?_
  · exact OpensS.one _ rfl rfl O36
  exact OpensS.one _ rfl rfl O36
def B25 (x : S25) : Prop := (fun l => ∀ x ∈ l, (B43) x) x.f0 ∧ (fun l => ∀ x ∈ l, (IsK .i64) x) x.f1 ∧ (IsK .i64) x.f2 ∧ (IsK .i64) x.f3
theorem O25 : Opens Tryz.prog k25 25 B25 := by
  refine Opens.struct ?_ Tryz.underlying25 (by kernel_rfl)
  refine OpensS.iso (d := (Kd.pair (Kd.slice 43 k43) (Kd.pair (Kd.slice 3 (Kd.int .i64)) (Kd.pair (Kd.int .i64) (Kd.int .i64))))) (B := fun p => (fun l => ∀ x ∈ l, (B43) x) p.1 ∧ (fun l => ∀ x ∈ l, (IsK .i64) x) p.2.1 ∧ (IsK .i64) p.2.2.1 ∧ (IsK .i64) p.2.2.2) ?_ (fun x : S25 => (x.f0, x.f1, x.f2, x.f3)) (fun p => ⟨p.1, p.2.1, p.2.2.1, p.2.2.2⟩) (fun _ => rfl)
  refine OpensS.cons (B := fun l => ∀ x ∈ l, (B43) x) (B' := fun p : (List Int) × Int × Int => (fun l => ∀ x ∈ l, (IsK .i64) x) p.1 ∧ (IsK .i64) p.2.1 ∧ (IsK .i64) p.2.2) ?_ ?_
  · exact OpensS.one _ rfl rfl (Opens.slice O43 Tryz.underlying22 (by kernel_rfl))
  refine OpensS.cons (B := fun l => ∀ x ∈ l, (IsK .i64) x) (B' := fun p : Int × Int => (IsK .i64) p.1 ∧ (IsK .i64) p.2) ?_ ?_
  · exact OpensS.one _ rfl rfl (Opens.slice O_i64 Tryz.underlying23 (by kernel_rfl))
  refine OpensS.cons (B := IsK .i64) (B' := fun p : Int => (IsK .i64) p) ?_ ?_
  · exact OpensS.one _ rfl rfl O_i64
  exact OpensS.one _ rfl rfl O_i64
end Go.Proofs.YtikmfpjcdcckeaaGreatDoor.P
