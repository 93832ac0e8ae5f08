/- Part 8 of what the law's proof needs: words, walks of functions and plain facts. -/
import Derived.Test.YtikmfpjcdcckeaaDoorA01
import Derived.Test.YtikmfpjcdcckeaaDoorA03
import Derived.Test.YtikmfpjcdcckeaaDoorA04
import Derived.Test.YtikmfpjcdcckeaaDoorA05
import Derived.Test.YtikmfpjcdcckeaaDoorA07
set_option linter.unusedVariables false
set_option linter.unusedSimpArgs false
namespace Go.Proofs.YtikmfpjcdcckeaaDoor.P
open Go.RowKit Go.Proofs.YtikmfpjcdcckeaaDoorW.PrintWords Go.Proofs.YtikmfpjcdcckeaaDoorW.PrintLast Go.Proofs.YtikmfpjcdcckeaaDoorW.PrintMore
attribute [local go_sem] max2_int min2_int max_two min_two max_three min_three max_four min_four
attribute [local go_sem high] eqA40
mutual
def walkmilllaw05_TenterNever.j0 : Nat → List Int → Int → List (S40) → Bool → List (S42) → List Int → Int → Int → Option (Bool)
 | 0, _, _, _, _, _, _, _, _ => none
 | k + 1, x1, x2, x8, x37, x111000, x111001, x111002, x111003 => if x37 = true then (some false) else (walkmilllaw05_TenterNever.l0 k x1 x2 x8 0 x111000 x111001 x111002 x111003)
def walkmilllaw05_TenterNever.l0 : Nat → List Int → Int → List (S40) → Int → List (S42) → List Int → Int → Int → Option (Bool)
 | 0, _, _, _, _, _, _, _, _ => none
 | k + 1, x1, x2, x8, x10, x111000, x111001, x111002, x111003 => if x10 < (x8.length : Int) then (if 0 ≤ x10 then (if x10 < (x111000.length : Int) then ((walkmilllaw05_byteOf.f x1 x10).bind fun t126 => ((walkmilllaw05_inside.f ((rd_T42 x111000 x10).f0.f0) ((rd_T42 x111000 x10).f0.f1) t126).bind fun t127 => ((walkmilllaw05_own.f x111000 x111001 x111002 x111003).bind fun bt128 => ((tenter_Stretched.f bt128.1 bt128.2.1 bt128.2.2.1 bt128.2.2.2 x10 (wrap64 (1 + (Int.tmod (wrap64 (x2)) 1200)))).bind fun bt136 => (if bt136.2.2 = 0 then (if bt136.1 = true then (if ((wrap64 ((wrap64 (1 + (Int.tmod (wrap64 (x2)) 1200))) * 1000)) > (wrap64 (t127 * (wrap64 (1000 + x111003))))) then (if (wrap64 ((wrap64 (1 + (Int.tmod (wrap64 (x2)) 1200))) * 1000)) > (wrap64 (t127 * (wrap64 (1000 + x111003)))) then (if bt136.2.1 = true then (walkmilllaw05_TenterNever.j2 k x1 x2 x8 x10 t127 (!bt136.2.1) x111000 x111001 x111002 x111003 ((rd_T42 x111000 x10).f0.f0) ((rd_T42 x111000 x10).f0.f1)) else (walkmilllaw05_TenterNever.j2 k x1 x2 x8 x10 t127 true x111000 x111001 x111002 x111003 ((rd_T42 x111000 x10).f0.f0) ((rd_T42 x111000 x10).f0.f1))) else (walkmilllaw05_TenterNever.j2 k x1 x2 x8 x10 t127 (!bt136.2.1) x111000 x111001 x111002 x111003 ((rd_T42 x111000 x10).f0.f0) ((rd_T42 x111000 x10).f0.f1))) else (walkmilllaw05_TenterNever.j2 k x1 x2 x8 x10 t127 true x111000 x111001 x111002 x111003 ((rd_T42 x111000 x10).f0.f0) ((rd_T42 x111000 x10).f0.f1))) else (if (wrap64 ((wrap64 (1 + (Int.tmod (wrap64 (x2)) 1200))) * 1000)) > (wrap64 (t127 * (wrap64 (1000 + x111003)))) then (if bt136.2.1 = true then (walkmilllaw05_TenterNever.j2 k x1 x2 x8 x10 t127 false x111000 x111001 x111002 x111003 ((rd_T42 x111000 x10).f0.f0) ((rd_T42 x111000 x10).f0.f1)) else (walkmilllaw05_TenterNever.j2 k x1 x2 x8 x10 t127 true x111000 x111001 x111002 x111003 ((rd_T42 x111000 x10).f0.f0) ((rd_T42 x111000 x10).f0.f1))) else (walkmilllaw05_TenterNever.j2 k x1 x2 x8 x10 t127 false x111000 x111001 x111002 x111003 ((rd_T42 x111000 x10).f0.f0) ((rd_T42 x111000 x10).f0.f1)))) else (walkmilllaw05_TenterNever.j2 k x1 x2 x8 x10 t127 true x111000 x111001 x111002 x111003 ((rd_T42 x111000 x10).f0.f0) ((rd_T42 x111000 x10).f0.f1))))))) else (none)) else (none)) else ((walkmilllaw05_known.f).bind fun t123 => (some t123))
def walkmilllaw05_TenterNever.j2 : Nat → List Int → Int → List (S40) → Int → Int → Bool → List (S42) → List Int → Int → Int → Int → Int → Option (Bool)
 | 0, _, _, _, _, _, _, _, _, _, _, _, _ => none
 | k + 1, x1, x2, x8, x10, x12, x98, x111000, x111001, x111002, x111003, x126000, x126001 => if x98 = true then (some false) else (if 0 ≤ x10 then (if x10 < (x8.length : Int) then (if ((rd_T40 x8 x10).f0) > ((rd_T40 x8 x10).f1) then ((walkmilllaw05_span.f 1 0).bind fun bt142 => (if (!(((rd_T40 x8 x10).f0) == bt142.1) || (!(((rd_T40 x8 x10).f1) == bt142.2))) = true then (some false) else ((walkmilllaw05_pulled.f x111000 x111001 x111002 x111003 x126000 x126001).bind fun t144 => (if t144 = true then (some false) else (walkmilllaw05_TenterNever.l0 k x1 x2 x8 (wrap64 (x10 + 1)) x111000 x111001 x111002 x111003))))) else (walkmilllaw05_TenterNever.l1 k x1 x2 x8 x10 x12 0 x111000 x111001 x111002 x111003 x126000 x126001)) else (none)) else (none))
def walkmilllaw05_TenterNever.l1 : Nat → List Int → Int → List (S40) → Int → Int → Int → List (S42) → List Int → Int → Int → Int → Int → Option (Bool)
 | 0, _, _, _, _, _, _, _, _, _, _, _, _ => none
 | k + 1, x1, x2, x8, x10, x12, x18, x111000, x111001, x111002, x111003, x126000, x126001 => if x18 < 2 then (if 0 ≤ x10 then (if x10 < (x8.length : Int) then (if x18 = 0 then ((walkmilllaw05_pulled.f x111000 x111001 x111002 x111003 x12 ((rd_T40 x8 x10).f0)).bind fun t147 => (if t147 = true then ((walkmilllaw05_pulled.f x111000 x111001 x111002 x111003 x126000 ((rd_T40 x8 x10).f0)).bind fun t148 => (if t148 = true then ((walkmilllaw05_pulled.f x111000 x111001 x111002 x111003 x126001 ((rd_T40 x8 x10).f0)).bind fun t149 => (if t149 = true then (walkmilllaw05_TenterNever.l1 k x1 x2 x8 x10 x12 (wrap64 (x18 + 1)) x111000 x111001 x111002 x111003 x126000 x126001) else (some false))) else (some false))) else (some false))) else (if x18 = 1 then ((walkmilllaw05_pulled.f x111000 x111001 x111002 x111003 x12 ((rd_T40 x8 x10).f1)).bind fun t150 => (if t150 = true then ((walkmilllaw05_pulled.f x111000 x111001 x111002 x111003 x126000 ((rd_T40 x8 x10).f1)).bind fun t151 => (if t151 = true then ((walkmilllaw05_pulled.f x111000 x111001 x111002 x111003 x126001 ((rd_T40 x8 x10).f1)).bind fun t152 => (if t152 = true then (walkmilllaw05_TenterNever.l1 k x1 x2 x8 x10 x12 (wrap64 (x18 + 1)) x111000 x111001 x111002 x111003 x126000 x126001) else (some false))) else (some false))) else (some false))) else (none))) else (none)) else (none)) else (if 0 ≤ x10 then (if x10 < (x8.length : Int) then ((walkmilllaw05_pulled.f x111000 x111001 x111002 x111003 x126001 (wrap64 (((rd_T40 x8 x10).f0) - 1))).bind fun t154 => (if t154 = true then (some false) else ((walkmilllaw05_pulled.f x111000 x111001 x111002 x111003 x126000 (wrap64 (((rd_T40 x8 x10).f1) + 1))).bind fun t156 => (if t156 = true then (some false) else (walkmilllaw05_TenterNever.l0 k x1 x2 x8 (wrap64 (x10 + 1)) x111000 x111001 x111002 x111003))))) else (none)) else (none))
end
def walkmilllaw05_TenterNever.f (k : Nat) (l0_0 : List (S71)) (a0_1 : Int) (a0_2 : Int) (a0_3 : Int) (a0_4 : Int) (a0_5 : Int) (l0_6 : List (S65)) (l1 : List Int) (a2 : Int) : Option (Bool) := (walkmilllaw05_Green_field.f k l0_0 a0_1 a0_2 a0_3 a0_4 a0_5 l0_6).bind fun bt102 => ((walkmilllaw05_own.f bt102.1 bt102.2.1 bt102.2.2.1 bt102.2.2.2).bind fun bt111 => ((tenter_Hangs.f k bt111.1 bt111.2.1 bt111.2.2.1 bt111.2.2.2).bind fun bt119 => (if bt119.2 = 0 then (walkmilllaw05_TenterNever.j0 k l1 a2 bt119.1 ((bt119.1.length : Int) != (bt102.1.length : Int)) bt102.1 bt102.2.1 bt102.2.2.1 bt102.2.2.2) else (walkmilllaw05_TenterNever.j0 k l1 a2 bt119.1 true bt102.1 bt102.2.1 bt102.2.2.1 bt102.2.2.2))))
theorem walkmilllaw05_TenterNever.mono_l : ∀ k, (∀ y0 y1 y2 y3 y4 y5 y6 y7, LeO (walkmilllaw05_TenterNever.j0 k y0 y1 y2 y3 y4 y5 y6 y7) (walkmilllaw05_TenterNever.j0 (k + 1) y0 y1 y2 y3 y4 y5 y6 y7)) ∧ (∀ y0 y1 y2 y3 y4 y5 y6 y7, LeO (walkmilllaw05_TenterNever.l0 k y0 y1 y2 y3 y4 y5 y6 y7) (walkmilllaw05_TenterNever.l0 (k + 1) y0 y1 y2 y3 y4 y5 y6 y7)) ∧ (∀ y0 y1 y2 y3 y4 y5 y6 y7 y8 y9 y10 y11, LeO (walkmilllaw05_TenterNever.j2 k y0 y1 y2 y3 y4 y5 y6 y7 y8 y9 y10 y11) (walkmilllaw05_TenterNever.j2 (k + 1) y0 y1 y2 y3 y4 y5 y6 y7 y8 y9 y10 y11)) ∧ (∀ y0 y1 y2 y3 y4 y5 y6 y7 y8 y9 y10 y11, LeO (walkmilllaw05_TenterNever.l1 k y0 y1 y2 y3 y4 y5 y6 y7 y8 y9 y10 y11) (walkmilllaw05_TenterNever.l1 (k + 1) y0 y1 y2 y3 y4 y5 y6 y7 y8 y9 y10 y11))
 | 0 => ⟨fun _ _ _ _ _ _ _ _ r h => by simp [walkmilllaw05_TenterNever.j0] at h, fun _ _ _ _ _ _ _ _ r h => by simp [walkmilllaw05_TenterNever.l0] at h, fun _ _ _ _ _ _ _ _ _ _ _ _ r h => by simp [walkmilllaw05_TenterNever.j2] at h, fun _ _ _ _ _ _ _ _ _ _ _ _ r h => by simp [walkmilllaw05_TenterNever.l1] at h⟩
 | k + 1 => by
  obtain ⟨ih0, ih1, ih2, ih3⟩ := walkmilllaw05_TenterNever.mono_l k
  refine ⟨?_, ?_, ?_, ?_⟩
  ·
   intro y0 y1 y2 y3 y4 y5 y6 y7
   unfold walkmilllaw05_TenterNever.j0
   repeat' first
   | (with_reducible exact ih0 _ _ _ _ _ _ _ _)
   | (with_reducible exact ih1 _ _ _ _ _ _ _ _)
   | (with_reducible exact ih2 _ _ _ _ _ _ _ _ _ _ _ _)
   | (with_reducible exact ih3 _ _ _ _ _ _ _ _ _ _ _ _)
   | (with_reducible exact tenter_Hangs.mono _ _ _ _ _)
   | (with_reducible exact walkmilllaw05_Green_field.mono _ _ _ _ _ _ _ _)
   | (with_reducible exact LeO.refl _)
   | (with_reducible exact LeO.none _)
   | (with_reducible refine LeO.ite ?_ ?_)
   | (with_reducible refine LeO.bind ?_ (fun _ => ?_))
   | exact ih0 _ _ _ _ _ _ _ _
   | exact ih1 _ _ _ _ _ _ _ _
   | exact ih2 _ _ _ _ _ _ _ _ _ _ _ _
   | exact ih3 _ _ _ _ _ _ _ _ _ _ _ _
   | exact tenter_Hangs.mono _ _ _ _ _
   | exact walkmilllaw05_Green_field.mono _ _ _ _ _ _ _ _
   | exact LeO.none _
   | refine LeO.ite ?_ ?_
   | refine LeO.bind ?_ (fun _ => ?_)
  ·
   intro y0 y1 y2 y3 y4 y5 y6 y7
   unfold walkmilllaw05_TenterNever.l0
   repeat' first
   | (with_reducible exact ih0 _ _ _ _ _ _ _ _)
   | (with_reducible exact ih1 _ _ _ _ _ _ _ _)
   | (with_reducible exact ih2 _ _ _ _ _ _ _ _ _ _ _ _)
   | (with_reducible exact ih3 _ _ _ _ _ _ _ _ _ _ _ _)
   | (with_reducible exact tenter_Hangs.mono _ _ _ _ _)
   | (with_reducible exact walkmilllaw05_Green_field.mono _ _ _ _ _ _ _ _)
   | (with_reducible exact LeO.refl _)
   | (with_reducible exact LeO.none _)
   | (with_reducible refine LeO.ite ?_ ?_)
   | (with_reducible refine LeO.bind ?_ (fun _ => ?_))
   | exact ih0 _ _ _ _ _ _ _ _
   | exact ih1 _ _ _ _ _ _ _ _
   | exact ih2 _ _ _ _ _ _ _ _ _ _ _ _
   | exact ih3 _ _ _ _ _ _ _ _ _ _ _ _
   | exact tenter_Hangs.mono _ _ _ _ _
   | exact walkmilllaw05_Green_field.mono _ _ _ _ _ _ _ _
   | exact LeO.none _
   | refine LeO.ite ?_ ?_
   | refine LeO.bind ?_ (fun _ => ?_)
  ·
   intro y0 y1 y2 y3 y4 y5 y6 y7 y8 y9 y10 y11
   unfold walkmilllaw05_TenterNever.j2
   repeat' first
   | (with_reducible exact ih0 _ _ _ _ _ _ _ _)
   | (with_reducible exact ih1 _ _ _ _ _ _ _ _)
   | (with_reducible exact ih2 _ _ _ _ _ _ _ _ _ _ _ _)
   | (with_reducible exact ih3 _ _ _ _ _ _ _ _ _ _ _ _)
   | (with_reducible exact tenter_Hangs.mono _ _ _ _ _)
   | (with_reducible exact walkmilllaw05_Green_field.mono _ _ _ _ _ _ _ _)
   | (with_reducible exact LeO.refl _)
   | (with_reducible exact LeO.none _)
   | (with_reducible refine LeO.ite ?_ ?_)
   | (with_reducible refine LeO.bind ?_ (fun _ => ?_))
   | exact ih0 _ _ _ _ _ _ _ _
   | exact ih1 _ _ _ _ _ _ _ _
   | exact ih2 _ _ _ _ _ _ _ _ _ _ _ _
   | exact ih3 _ _ _ _ _ _ _ _ _ _ _ _
   | exact tenter_Hangs.mono _ _ _ _ _
   | exact walkmilllaw05_Green_field.mono _ _ _ _ _ _ _ _
   | exact LeO.none _
   | refine LeO.ite ?_ ?_
   | refine LeO.bind ?_ (fun _ => ?_)
  ·
   intro y0 y1 y2 y3 y4 y5 y6 y7 y8 y9 y10 y11
   unfold walkmilllaw05_TenterNever.l1
   repeat' first
   | (with_reducible exact ih0 _ _ _ _ _ _ _ _)
   | (with_reducible exact ih1 _ _ _ _ _ _ _ _)
   | (with_reducible exact ih2 _ _ _ _ _ _ _ _ _ _ _ _)
   | (with_reducible exact ih3 _ _ _ _ _ _ _ _ _ _ _ _)
   | (with_reducible exact tenter_Hangs.mono _ _ _ _ _)
   | (with_reducible exact walkmilllaw05_Green_field.mono _ _ _ _ _ _ _ _)
   | (with_reducible exact LeO.refl _)
   | (with_reducible exact LeO.none _)
   | (with_reducible refine LeO.ite ?_ ?_)
   | (with_reducible refine LeO.bind ?_ (fun _ => ?_))
   | exact ih0 _ _ _ _ _ _ _ _
   | exact ih1 _ _ _ _ _ _ _ _
   | exact ih2 _ _ _ _ _ _ _ _ _ _ _ _
   | exact ih3 _ _ _ _ _ _ _ _ _ _ _ _
   | exact tenter_Hangs.mono _ _ _ _ _
   | exact walkmilllaw05_Green_field.mono _ _ _ _ _ _ _ _
   | exact LeO.none _
   | refine LeO.ite ?_ ?_
   | refine LeO.bind ?_ (fun _ => ?_)
theorem walkmilllaw05_TenterNever.dead_j0 : ∀ k y0 y1 y2 y4 y5 y6 y7 r, walkmilllaw05_TenterNever.j0 k y0 y1 y2 true y4 y5 y6 y7 = some r → r = true → False := by
 intro k y0 y1 y2 y4 y5 y6 y7 r h hr
 cases k with
 | zero => simp [walkmilllaw05_TenterNever.j0] at h
 | succ k => exact absurd ((Option.some.inj (show (some false : Option Bool) = some r from h)).trans hr) (by simp)
theorem walkmilllaw05_TenterNever.dead_j2 : ∀ k y0 y1 y2 y3 y4 y6 y7 y8 y9 y10 y11 r, walkmilllaw05_TenterNever.j2 k y0 y1 y2 y3 y4 true y6 y7 y8 y9 y10 y11 = some r → r = true → False := by
 intro k y0 y1 y2 y3 y4 y6 y7 y8 y9 y10 y11 r h hr
 cases k with
 | zero => simp [walkmilllaw05_TenterNever.j2] at h
 | succ k => exact absurd ((Option.some.inj (show (some false : Option Bool) = some r from h)).trans hr) (by simp)
theorem walkmilllaw05_TenterNever.mono : ∀ a0 a1 a2 a3 a4 a5 a6 a7 a8 k, LeO (walkmilllaw05_TenterNever.f k a0 a1 a2 a3 a4 a5 a6 a7 a8) (walkmilllaw05_TenterNever.f (k + 1) a0 a1 a2 a3 a4 a5 a6 a7 a8) := by
 intro a0 a1 a2 a3 a4 a5 a6 a7 a8 k
 obtain ⟨ih0, ih1, ih2, ih3⟩ := walkmilllaw05_TenterNever.mono_l k
 unfold walkmilllaw05_TenterNever.f
 repeat' first
   | (with_reducible exact ih0 _ _ _ _ _ _ _ _)
   | (with_reducible exact ih1 _ _ _ _ _ _ _ _)
   | (with_reducible exact ih2 _ _ _ _ _ _ _ _ _ _ _ _)
   | (with_reducible exact ih3 _ _ _ _ _ _ _ _ _ _ _ _)
   | (with_reducible exact tenter_Hangs.mono _ _ _ _ _)
   | (with_reducible exact walkmilllaw05_Green_field.mono _ _ _ _ _ _ _ _)
   | (with_reducible exact LeO.refl _)
   | (with_reducible exact LeO.none _)
   | (with_reducible refine LeO.ite ?_ ?_)
   | (with_reducible refine LeO.bind ?_ (fun _ => ?_))
   | exact ih0 _ _ _ _ _ _ _ _
   | exact ih1 _ _ _ _ _ _ _ _
   | exact ih2 _ _ _ _ _ _ _ _ _ _ _ _
   | exact ih3 _ _ _ _ _ _ _ _ _ _ _ _
   | exact tenter_Hangs.mono _ _ _ _ _
   | exact walkmilllaw05_Green_field.mono _ _ _ _ _ _ _ _
   | exact LeO.none _
   | refine LeO.ite ?_ ?_
   | refine LeO.bind ?_ (fun _ => ?_)
def walkmilllaw05_TenterNever.T9 : Bool × List (List Nat × List Nat) := (true, [([], []), ([], []), ([], []), ([1, 2], [1, 2]), ([0, 3, 3], [0, 3]), ([], []), ([5], [5]), ([6], [6]), ([7], [7]), ([4, 4, 0, 1, 2, 3, 4], [4]), ([8, 9, 0, 1, 2, 3, 4, 5, 6, 7, 8, 9], [8])])
def walkmilllaw05_TenterNever.B9 : List Nat := [0, 0, 0, 6, 15, 0, 32, 96, 224, 31, 1023]
theorem walkmilllaw05_TenterNever.tab9 : rtab .any (opsOf Tryd.f3 9) = walkmilllaw05_TenterNever.T9 := by kernel_rfl
theorem walkmilllaw05_TenterNever.bits9 : waitsOk walkmilllaw05_TenterNever.T9.2 walkmilllaw05_TenterNever.B9 = true := by kernel_rfl
def walkmilllaw05_TenterNever.T14 : Bool × List (List Nat × List Nat) := (true, [([], []), ([], []), ([0, 1], [0, 1]), ([2], [2]), ([3], [3]), ([], []), ([], []), ([5, 6], [5, 6]), ([7], [7]), ([8], [8]), ([4, 9], [4, 9])])
def walkmilllaw05_TenterNever.B14 : List Nat := [0, 0, 3, 7, 15, 0, 0, 96, 224, 480, 1023]
theorem walkmilllaw05_TenterNever.tab14 : rtab .any (opsOf Tryd.f3 14) = walkmilllaw05_TenterNever.T14 := by kernel_rfl
theorem walkmilllaw05_TenterNever.bits14 : waitsOk walkmilllaw05_TenterNever.T14.2 walkmilllaw05_TenterNever.B14 = true := by kernel_rfl
def walkmilllaw05_TenterNever.T15 : Bool × List (List Nat × List Nat) := (true, [([], []), ([], []), ([0, 1], [0, 1]), ([2], [2]), ([], []), ([3, 4], [3, 4]), ([5, 4], [5]), ([6], [6]), ([6], [6]), ([8, 6], [6, 8]), ([6], [6]), ([10, 6], [6, 10]), ([7, 9, 11, 6, 6], [6, 7, 9, 11]), ([6, 12], [6, 12])])
def walkmilllaw05_TenterNever.B15 : List Nat := [0, 0, 3, 7, 0, 31, 63, 127, 127, 383, 127, 1151, 4095, 8191]
theorem walkmilllaw05_TenterNever.tab15 : rtab .any (opsOf Tryd.f3 15) = walkmilllaw05_TenterNever.T15 := by kernel_rfl
theorem walkmilllaw05_TenterNever.bits15 : waitsOk walkmilllaw05_TenterNever.T15.2 walkmilllaw05_TenterNever.B15 = true := by kernel_rfl
def walkmilllaw05_TenterNever.T20 : Bool × List (List Nat × List Nat) := (true, [([], []), ([], []), ([0, 1], [0, 1]), ([2], [2]), ([3], [3]), ([], []), ([], []), ([5, 6], [5, 6]), ([7], [7]), ([8], [8]), ([4, 9], [4, 9]), ([], []), ([10, 11], [10, 11]), ([12, 0, 1, 2, 3, 4, 5, 6, 7, 8, 9, 10, 11, 12], [12])])
def walkmilllaw05_TenterNever.B20 : List Nat := [0, 0, 3, 7, 15, 0, 0, 96, 224, 480, 1023, 0, 4095, 8191]
theorem walkmilllaw05_TenterNever.tab20 : rtab .any (opsOf Tryd.f3 20) = walkmilllaw05_TenterNever.T20 := by kernel_rfl
theorem walkmilllaw05_TenterNever.bits20 : waitsOk walkmilllaw05_TenterNever.T20.2 walkmilllaw05_TenterNever.B20 = true := by kernel_rfl
def walkmilllaw05_TenterNever.T23 : Bool × List (List Nat × List Nat) := (true, [([], []), ([], []), ([1], [1]), ([], []), ([], []), ([3, 4], [3, 4]), ([5], [5]), ([6], [6]), ([7], [7]), ([0, 2, 8], [0, 2, 8]), ([9, 9], [9]), ([10], [10]), ([10], [10]), ([12, 10], [10, 12]), ([10], [10]), ([10], [10]), ([14, 15, 10], [10, 14, 15]), ([16, 10], [10, 16]), ([17, 10], [10, 17]), ([18, 10], [10, 18]), ([11, 13, 19, 10, 10], [10, 11, 13, 19]), ([10, 20], [10, 20])])
def walkmilllaw05_TenterNever.B23 : List Nat := [0, 0, 2, 0, 0, 24, 56, 120, 248, 511, 1023, 2047, 2047, 6143, 2047, 2047, 51199, 116735, 247807, 509951, 1048575, 2097151]
theorem walkmilllaw05_TenterNever.tab23 : rtab .any (opsOf Tryd.f3 23) = walkmilllaw05_TenterNever.T23 := by kernel_rfl
theorem walkmilllaw05_TenterNever.bits23 : waitsOk walkmilllaw05_TenterNever.T23.2 walkmilllaw05_TenterNever.B23 = true := by kernel_rfl
set_option maxHeartbeats 8000000 in
set_option maxRecDepth 100000 in
theorem walkmilllaw05_TenterNever.calls_true (k : Nat) (A0_0 : Option Addr) (c0_0 : Nat) (l0_0 : List (S71)) (a0_1 : Int) (a0_2 : Int) (a0_3 : Int) (a0_4 : Int) (a0_5 : Int) (A0_6 : Option Addr) (c0_6 : Nat) (l0_6 : List (S65)) (A1 : Option Addr) (c1 : Nat) (l1 : List Int) (a2 : Int) (r : Bool) (w : World) (hr0_0 : Kd.C k71 w A0_0 l0_0.length l0_0) (hc0_0 : l0_0.length ≤ c0_0) (hr0_6 : Kd.C k65 w A0_6 l0_6.length l0_6) (hc0_6 : l0_6.length ≤ c0_6) (hr1 : Kd.C (Kd.int .u8) w A1 l1.length l1) (hc1 : l1.length ≤ c1) (hrt : r = true) (hLd : LaidT w) (h : walkmilllaw05_TenterNever.f k l0_0 a0_1 a0_2 a0_3 a0_4 a0_5 l0_6 l1 a2 = some r) :
  Calls Tryd.prog 3 #[.agg #[.slice A0_0 l0_0.length c0_0, .int .u8 a0_1, .int .u8 a0_2, .int .u8 a0_3, .int .u8 a0_4, .int .u8 a0_5, .slice A0_6 l0_6.length c0_6], .slice A1 l1.length c1, .int .u16 a2] w fun e w' => e = .returned (.bool r) ∧ Below w.heap.size w w' := by
 have hix49_0 : ∀ (i_ : Int) (x0_ x1_ : Value) (W_ : World), (i_ == 0) = true → (Instr.index 49 (.agg #[x0_, x1_]) (.int .i64 i_)).run Tryd.prog W_ = .ok (x0_) W_ := fun i_ _ _ _ h_ => by obtain rfl := beq_iff_eq.mp h_; kernel_rfl
 have hix49_1 : ∀ (i_ : Int) (x0_ x1_ : Value) (W_ : World), (i_ == 1) = true → (Instr.index 49 (.agg #[x0_, x1_]) (.int .i64 i_)).run Tryd.prog W_ = .ok (x1_) W_ := fun i_ _ _ _ h_ => by obtain rfl := beq_iff_eq.mp h_; kernel_rfl
 have hu26 := Tryd.underlying26
 have hu32 := Tryd.underlying32
 have hu40 := Tryd.underlying40
 have hu49 := Tryd.underlying49
 have HRT := Aside0.mk hrt
 clear hrt
 have HR0_0 := Aside0.mk hr0_0
 have HC0_0 := Aside0.mk hc0_0
 clear hr0_0 hc0_0
 have HR0_6 := Aside0.mk hr0_6
 have HC0_6 := Aside0.mk hc0_6
 clear hr0_6 hc0_6
 have HR1 := Aside0.mk hr1
 have HC1 := Aside0.mk hc1
 clear hr1 hc1
 have HLd := Aside0.mk hLd
 clear hLd
 have HB := Aside0.mk (Below.refl w.heap.size w)
 have H : ((walkmilllaw05_Green_field.f k l0_0 a0_1 a0_2 a0_3 a0_4 a0_5 l0_6).bind fun bt102 => ((walkmilllaw05_own.f bt102.1 bt102.2.1 bt102.2.2.1 bt102.2.2.2).bind fun bt111 => ((tenter_Hangs.f k bt111.1 bt111.2.1 bt111.2.2.1 bt111.2.2.2).bind fun bt119 => (if bt119.2 = 0 then (walkmilllaw05_TenterNever.j0 k l1 a2 bt119.1 ((bt119.1.length : Int) != (bt102.1.length : Int)) bt102.1 bt102.2.1 bt102.2.2.1 bt102.2.2.2) else (walkmilllaw05_TenterNever.j0 k l1 a2 bt119.1 true bt102.1 bt102.2.1 bt102.2.2.1 bt102.2.2.2))))) = some r := h
 clear h
 replace H := Option.bind_eq_some_iff.mp H
 obtain ⟨⟨t102, t105, t108, t109⟩, A40, H⟩ := H
 replace H : ((walkmilllaw05_own.f t102 t105 t108 t109).bind fun bt111 => ((tenter_Hangs.f k bt111.1 bt111.2.1 bt111.2.2.1 bt111.2.2.2).bind fun bt119 => (if bt119.2 = 0 then (walkmilllaw05_TenterNever.j0 k l1 a2 bt119.1 ((bt119.1.length : Int) != (t102.length : Int)) t102 t105 t108 t109) else (walkmilllaw05_TenterNever.j0 k l1 a2 bt119.1 true t102 t105 t108 t109)))) = some r := H
 have A4 := Aside0.mk A40
 clear A40
 replace H := Option.bind_eq_some_iff.mp H
 obtain ⟨⟨t111, t114, t117, t118⟩, A50, H⟩ := H
 replace H : ((tenter_Hangs.f k t111 t114 t117 t118).bind fun bt119 => (if bt119.2 = 0 then (walkmilllaw05_TenterNever.j0 k l1 a2 bt119.1 ((bt119.1.length : Int) != (t102.length : Int)) t102 t105 t108 t109) else (walkmilllaw05_TenterNever.j0 k l1 a2 bt119.1 true t102 t105 t108 t109))) = some r := H
 have A5 := Aside0.mk A50
 clear A50
 replace H := Option.bind_eq_some_iff.mp H
 obtain ⟨⟨t119, t122⟩, A60, H⟩ := H
 replace H : (if t122 = 0 then (walkmilllaw05_TenterNever.j0 k l1 a2 t119 ((t119.length : Int) != (t102.length : Int)) t102 t105 t108 t109) else (walkmilllaw05_TenterNever.j0 k l1 a2 t119 true t102 t105 t108 t109)) = some r := H
 have A6 := Aside0.mk A60
 clear A60
 have HC7 := Aside0.mk H
 clear H
 go_enter Tryd.func3, Tryd.ntmps3
 go_upto_region 3 with (first | ((with_reducible refine gate_dst (N := 3) rfl ?_); (try (refine gate_guard (by rfl) ?_; dsimp only)); refine box_event ?hg (N := 3) ?hd (cs := #[.slice A0_0 l0_0.length c0_0, .int .u8 a0_1, .int .u8 a0_2, .int .u8 a0_3, .int .u8 a0_4, .int .u8 a0_5, .slice A0_6 l0_6.length c0_6]) (t := 26) ?hr ?_; (case hd => rfl); (case hg => rfl); (case hr => first | (go_simp; done) | (go_simp; rfl)); intro gb101 hg w8 hbox hb; have n0_ := Aside0.mk (below_step (by repeat (first | (with_reducible first | exact HB.out | apply below_alloc | apply pw_below_drewN | apply below_drew1) | exact HB.out)) hb); have n1_ := Aside0.mk (hbox); have n2_ := Aside0.mk ((by rw [hg]; exact (below_size (by repeat (first | (with_reducible first | exact HB.out | apply below_alloc | apply pw_below_drewN | apply below_drew1) | exact HB.out))) : w.heap.size ≤ gb101)); have n3_ := Aside0.mk ((by rw [hg]; exact (below_size (by repeat (first | (with_reducible first | exact HB.out | apply below_alloc | apply pw_below_drewN | apply below_drew1) | exact HB.out))) : w.heap.size ≤ gb101)); clear HB; have HB := n0_; have BK101 := n1_; have GW101 := n2_; have GE101 := n3_; clear n0_ n1_ n2_ n3_; clear hb hbox hg; have hcz9_0 : w8.cell? ⟨gb101, 0, none⟩ = some (.slice A0_0 l0_0.length c0_0) := (blk_cell BK101.out 0).trans rfl; have hcz9_1 : w8.cell? ⟨gb101, 1, none⟩ = some (.int .u8 a0_1) := (blk_cell BK101.out 1).trans rfl; have hcz9_2 : w8.cell? ⟨gb101, 2, none⟩ = some (.int .u8 a0_2) := (blk_cell BK101.out 2).trans rfl; have hcz9_3 : w8.cell? ⟨gb101, 3, none⟩ = some (.int .u8 a0_3) := (blk_cell BK101.out 3).trans rfl; have hcz9_4 : w8.cell? ⟨gb101, 4, none⟩ = some (.int .u8 a0_4) := (blk_cell BK101.out 4).trans rfl; have hcz9_5 : w8.cell? ⟨gb101, 5, none⟩ = some (.int .u8 a0_5) := (blk_cell BK101.out 5).trans rfl; have hcz9_6 : w8.cell? ⟨gb101, 6, none⟩ = some (.slice A0_6 l0_6.length c0_6) := (blk_cell BK101.out 6).trans rfl; have hfz9_0 := blk_frozen BK101.out 0; have hfz9_1 := blk_frozen BK101.out 1; have hfz9_2 := blk_frozen BK101.out 2; have hfz9_3 := blk_frozen BK101.out 3; have hfz9_4 := blk_frozen BK101.out 4; have hfz9_5 := blk_frozen BK101.out 5; have hfz9_6 := blk_frozen BK101.out 6) | ((with_reducible refine gate_callee (f := 7) rfl ?_); refine goesL_ (some 21) rfl rfl Tryd.func7 (by kernel_rfl) rfl #[.agg #[.slice A0_0 l0_0.length c0_0, .int .u8 a0_1, .int .u8 a0_2, .int .u8 a0_3, .int .u8 a0_4, .int .u8 a0_5, .slice A0_6 l0_6.length c0_6]] rfl (by (try simp only [List.map_toArray, List.map_cons, List.map_nil]); first | done | rfl | (simp only [List.length_drop, List.length_take]; rfl)) ?_; (with_reducible refine (walkmilllaw05_Green_field.calls k _ _ l0_0 a0_1 a0_2 a0_3 a0_4 a0_5 _ _ l0_6 t102 t105 t108 t109 _ ?side1 ?side2 ?side3 ?side4 A4.out).mono ?_); (case side1 => repeat (first | exact (Kd.C_below HR0_0.out HB.out) | (with_reducible refine Kd.C_alloc ?_ _) | (with_reducible refine Kd.C_drewN ?_ _) | (with_reducible refine Kd.C_drew ?_))); (case side2 => exact HC0_0.out); (case side3 => repeat (first | exact (Kd.C_below HR0_6.out HB.out) | (with_reducible refine Kd.C_alloc ?_ _) | (with_reducible refine Kd.C_drewN ?_ _) | (with_reducible refine Kd.C_drew ?_))); (case side4 => exact HC0_6.out); rintro e w10 ⟨v103, v106, rfl, ho0, ho1, hb⟩; refine ⟨_, rfl, ?_⟩; have n0_ := Aside0.mk (Kd.R_lower ho0 (below_size (by repeat (first | (with_reducible first | exact HB.out | apply below_alloc | apply pw_below_drewN | apply below_drew1 | refine below_set ?_ GE101.out) | exact HB.out)))); have n1_ := Aside0.mk (Kd.R_lower ho1 (below_size (by repeat (first | (with_reducible first | exact HB.out | apply below_alloc | apply pw_below_drewN | apply below_drew1 | refine below_set ?_ GE101.out) | exact HB.out)))); have n2_ := Aside0.mk (blk_below (g := gb101) (o := .cells #[.slice A0_0 l0_0.length c0_0, .int .u8 a0_1, .int .u8 a0_2, .int .u8 a0_3, .int .u8 a0_4, .int .u8 a0_5, .slice A0_6 l0_6.length c0_6] 26 (0, 0)) (by (with_reducible repeat (first | refine blk_drewN ?_ _ | refine blk_drew ?_ | refine blk_alloc ?_ _)); exact BK101.out) hb); have n3_ := Aside0.mk (below_step (by repeat (first | (with_reducible first | exact HB.out | apply below_alloc | apply pw_below_drewN | apply below_drew1 | refine below_set ?_ GE101.out) | exact HB.out)) hb); clear BK101; clear HB; have HO104 := n0_; have HO107 := n1_; have BK101 := n2_; have HB := n3_; clear n0_ n1_ n2_ n3_; (try clear hb); (try clear hb2); (try clear hk); (try clear hi); (try clear ho0); (try clear ho1)) | ((with_reducible refine gate_dst (N := 7) rfl ?_); (try (refine gate_guard (by rfl) ?_; dsimp only)); refine box_event ?hg (N := 7) ?hd (cs := #[.slice none 0 0, .slice none 0 0, .int .i64 0, .int .i64 0]) (t := 32) ?hr ?_; (case hd => rfl); (case hg => rfl); (case hr => first | (go_simp; done) | (go_simp; rfl)); intro gb110 hg w11 hbox hb; have n0_ := Aside0.mk (Kd.R_below (by (with_reducible repeat (first | apply Kd.R_alloc | apply Kd.R_drewN | apply Kd.R_drew)); exact HO104.out) hb); have n1_ := Aside0.mk (Kd.R_below (by (with_reducible repeat (first | apply Kd.R_alloc | apply Kd.R_drewN | apply Kd.R_drew)); exact HO107.out) hb); have n2_ := Aside0.mk (blk_below (g := gb101) (o := .cells #[.slice A0_0 l0_0.length c0_0, .int .u8 a0_1, .int .u8 a0_2, .int .u8 a0_3, .int .u8 a0_4, .int .u8 a0_5, .slice A0_6 l0_6.length c0_6] 26 (0, 0)) (by (with_reducible repeat (first | refine blk_drewN ?_ _ | refine blk_drew ?_ | refine blk_alloc ?_ _)); exact BK101.out) hb); have n3_ := Aside0.mk (below_step (by repeat (first | (with_reducible first | exact HB.out | apply below_alloc | apply pw_below_drewN | apply below_drew1 | refine below_set ?_ GE101.out) | exact HB.out)) hb); have n4_ := Aside0.mk (hbox); have n5_ := Aside0.mk ((by rw [hg]; exact (below_size (by repeat (first | (with_reducible first | exact HB.out | apply below_alloc | apply pw_below_drewN | apply below_drew1 | refine below_set ?_ GE101.out) | exact HB.out))) : w.heap.size ≤ gb110)); have n6_ := Aside0.mk ((by rw [hg]; exact (below_size (by repeat (first | (with_reducible first | exact HB.out | apply below_alloc | apply pw_below_drewN | apply below_drew1 | refine below_set ?_ GE101.out) | exact HB.out))) : w.heap.size ≤ gb110)); have n7_ := Aside0.mk ((by rw [hg]; exact Nat.ne_of_lt (blk_lt (g := gb101) (o := .cells #[.slice A0_0 l0_0.length c0_0, .int .u8 a0_1, .int .u8 a0_2, .int .u8 a0_3, .int .u8 a0_4, .int .u8 a0_5, .slice A0_6 l0_6.length c0_6] 26 (0, 0)) (by (with_reducible repeat (first | refine blk_drewN ?_ _ | refine blk_drew ?_ | refine blk_alloc ?_ _)); exact BK101.out)) : gb101 ≠ gb110)); have n8_ := Aside0.mk ((by rw [hg]; exact Nat.ne_of_gt (blk_lt (g := gb101) (o := .cells #[.slice A0_0 l0_0.length c0_0, .int .u8 a0_1, .int .u8 a0_2, .int .u8 a0_3, .int .u8 a0_4, .int .u8 a0_5, .slice A0_6 l0_6.length c0_6] 26 (0, 0)) (by (with_reducible repeat (first | refine blk_drewN ?_ _ | refine blk_drew ?_ | refine blk_alloc ?_ _)); exact BK101.out)) : gb110 ≠ gb101)); clear HO104; clear HO107; clear BK101; clear HB; have HO104 := n0_; have HO107 := n1_; have BK101 := n2_; have HB := n3_; have BK110 := n4_; have GW110 := n5_; have GE110 := n6_; have NB101_110 := n7_; have NB110_101 := n8_; clear n0_ n1_ n2_ n3_ n4_ n5_ n6_ n7_ n8_; clear hb hbox hg; obtain ⟨Ao12, co12, eo12⟩ := Kd.R_slice HO104.out; subst eo12; have hnb13 := NB110_101.out; have hnc13 := NB101_110.out; have hcz14_0 : w11.cell? ⟨gb110, 0, none⟩ = some (.slice none 0 0) := (blk_cell BK110.out 0).trans rfl; have hcz14_1 : w11.cell? ⟨gb110, 1, none⟩ = some (.slice none 0 0) := (blk_cell BK110.out 1).trans rfl; have hcz14_2 : w11.cell? ⟨gb110, 2, none⟩ = some (.int .i64 0) := (blk_cell BK110.out 2).trans rfl; have hcz14_3 : w11.cell? ⟨gb110, 3, none⟩ = some (.int .i64 0) := (blk_cell BK110.out 3).trans rfl; have hfz14_0 := blk_frozen BK110.out 0; have hfz14_1 := blk_frozen BK110.out 1; have hfz14_2 := blk_frozen BK110.out 2; have hfz14_3 := blk_frozen BK110.out 3; obtain ⟨Ao15, co15, eo15⟩ := Kd.R_slice HO107.out; subst eo15) | ((with_reducible refine gate_callee (f := 9) rfl ?_); refine goesL_ (some 24) rfl rfl Tryd.func9 (by kernel_rfl) rfl #[.agg #[.slice Ao12 t102.length co12, .slice Ao15 t105.length co15, .int .i64 t108, .int .i64 t109]] rfl (by (try simp only [List.map_toArray, List.map_cons, List.map_nil]); first | done | rfl | (simp only [List.length_drop, List.length_take]; rfl)) ?_; (with_reducible refine (walkmilllaw05_own.calls _ _ t102 _ _ t105 t108 t109 t111 t114 t117 t118 _ ?side1 ?side2 ?side3 ?side4 A5.out).mono ?_); (case side1 => refine (Kd.R_reads' (e := 42) (base := w.heap.size) (ok := fun k_ => True) (n := t102.length) (c := co12) ?_).2.2; exact (by (with_reducible repeat (first | apply Kd.R_alloc | apply Kd.R_drewN | apply Kd.R_drew)); exact (Kd.R_mono (Kd.R_far (p := ⟨gb110, 3, none⟩) (Kd.R_far (p := ⟨gb110, 2, none⟩) (Kd.R_far (p := ⟨gb110, 1, none⟩) (Kd.R_far (p := ⟨gb110, 0, none⟩) (Kd.R_types HO104.out BK110.out (by decide)) (fun _ hk => hk.2) (.slice Ao12 t102.length co12)) (fun _ hk => hk.2) (.slice Ao15 t105.length co15)) (fun _ hk => hk.2) (.int .i64 t108)) (fun _ hk => hk.2) (.int .i64 t109)) (fun _ h_ => h_.1)))); (case side2 => exact (Kd.R_reads' HO104.out).2.1); (case side3 => refine (Kd.R_reads' (e := 3) (base := w.heap.size) (ok := fun k_ => True) (n := t105.length) (c := co15) ?_).2.2; exact (by (with_reducible repeat (first | apply Kd.R_alloc | apply Kd.R_drewN | apply Kd.R_drew)); exact (Kd.R_mono (Kd.R_far (p := ⟨gb110, 3, none⟩) (Kd.R_far (p := ⟨gb110, 2, none⟩) (Kd.R_far (p := ⟨gb110, 1, none⟩) (Kd.R_far (p := ⟨gb110, 0, none⟩) (Kd.R_types HO107.out BK110.out (by decide)) (fun _ hk => hk.2) (.slice Ao12 t102.length co12)) (fun _ hk => hk.2) (.slice Ao15 t105.length co15)) (fun _ hk => hk.2) (.int .i64 t108)) (fun _ hk => hk.2) (.int .i64 t109)) (fun _ h_ => h_.1)))); (case side4 => exact (Kd.R_reads' HO107.out).2.1); rintro e w16 ⟨v112, v115, rfl, ho0, ho1, hb⟩; refine ⟨_, rfl, ?_⟩; have n0_ := Aside0.mk (Kd.R_elder' (by (with_reducible repeat (first | apply Kd.R_alloc | apply Kd.R_drewN | apply Kd.R_drew)); exact (Kd.R_mono (Kd.R_far (p := ⟨gb110, 3, none⟩) (Kd.R_far (p := ⟨gb110, 2, none⟩) (Kd.R_far (p := ⟨gb110, 1, none⟩) (Kd.R_far (p := ⟨gb110, 0, none⟩) (Kd.R_types HO104.out BK110.out (by decide)) (fun _ hk => hk.2) (.slice Ao12 t102.length co12)) (fun _ hk => hk.2) (.slice Ao15 t105.length co15)) (fun _ hk => hk.2) (.int .i64 t108)) (fun _ hk => hk.2) (.int .i64 t109)) (fun _ h_ => h_.1))) (Kd.R_base ho0) hb); have n1_ := Aside0.mk (Kd.R_elder' (by (with_reducible repeat (first | apply Kd.R_alloc | apply Kd.R_drewN | apply Kd.R_drew)); exact (Kd.R_mono (Kd.R_far (p := ⟨gb110, 3, none⟩) (Kd.R_far (p := ⟨gb110, 2, none⟩) (Kd.R_far (p := ⟨gb110, 1, none⟩) (Kd.R_far (p := ⟨gb110, 0, none⟩) (Kd.R_types HO107.out BK110.out (by decide)) (fun _ hk => hk.2) (.slice Ao12 t102.length co12)) (fun _ hk => hk.2) (.slice Ao15 t105.length co15)) (fun _ hk => hk.2) (.int .i64 t108)) (fun _ hk => hk.2) (.int .i64 t109)) (fun _ h_ => h_.1))) (Kd.R_base ho1) hb); have n2_ := Aside0.mk (Kd.R_lower (Kd.R_new' ho0 (Kd.R_lt (by (with_reducible repeat (first | apply Kd.R_alloc | apply Kd.R_drewN | apply Kd.R_drew)); exact (Kd.R_mono (Kd.R_far (p := ⟨gb110, 3, none⟩) (Kd.R_far (p := ⟨gb110, 2, none⟩) (Kd.R_far (p := ⟨gb110, 1, none⟩) (Kd.R_far (p := ⟨gb110, 0, none⟩) (Kd.R_types HO104.out BK110.out (by decide)) (fun _ hk => hk.2) (.slice Ao12 t102.length co12)) (fun _ hk => hk.2) (.slice Ao15 t105.length co15)) (fun _ hk => hk.2) (.int .i64 t108)) (fun _ hk => hk.2) (.int .i64 t109)) (fun _ h_ => h_.1))))) (below_size (by repeat (first | (with_reducible first | exact HB.out | apply below_alloc | apply pw_below_drewN | apply below_drew1 | refine below_set ?_ GE101.out | refine below_set ?_ GE110.out) | exact HB.out)))); have n3_ := Aside0.mk (Kd.R_lower (Kd.R_new' ho1 (Kd.R_lt (by (with_reducible repeat (first | apply Kd.R_alloc | apply Kd.R_drewN | apply Kd.R_drew)); exact (Kd.R_mono (Kd.R_far (p := ⟨gb110, 3, none⟩) (Kd.R_far (p := ⟨gb110, 2, none⟩) (Kd.R_far (p := ⟨gb110, 1, none⟩) (Kd.R_far (p := ⟨gb110, 0, none⟩) (Kd.R_types HO107.out BK110.out (by decide)) (fun _ hk => hk.2) (.slice Ao12 t102.length co12)) (fun _ hk => hk.2) (.slice Ao15 t105.length co15)) (fun _ hk => hk.2) (.int .i64 t108)) (fun _ hk => hk.2) (.int .i64 t109)) (fun _ h_ => h_.1))))) (below_size (by repeat (first | (with_reducible first | exact HB.out | apply below_alloc | apply pw_below_drewN | apply below_drew1 | refine below_set ?_ GE101.out | refine below_set ?_ GE110.out) | exact HB.out)))); have n4_ := Aside0.mk (blk_below (g := gb101) (o := .cells #[.slice A0_0 l0_0.length c0_0, .int .u8 a0_1, .int .u8 a0_2, .int .u8 a0_3, .int .u8 a0_4, .int .u8 a0_5, .slice A0_6 l0_6.length c0_6] 26 (0, 0)) (by (with_reducible repeat (first | refine blk_drewN ?_ _ | refine blk_drew ?_ | refine blk_alloc ?_ _)); refine blk_far ?_ NB101_110.out _; (with_reducible repeat (first | refine blk_drewN ?_ _ | refine blk_drew ?_ | refine blk_alloc ?_ _)); refine blk_far ?_ NB101_110.out _; (with_reducible repeat (first | refine blk_drewN ?_ _ | refine blk_drew ?_ | refine blk_alloc ?_ _)); refine blk_far ?_ NB101_110.out _; (with_reducible repeat (first | refine blk_drewN ?_ _ | refine blk_drew ?_ | refine blk_alloc ?_ _)); refine blk_far ?_ NB101_110.out _; (with_reducible repeat (first | refine blk_drewN ?_ _ | refine blk_drew ?_ | refine blk_alloc ?_ _)); exact BK101.out) hb); have n5_ := Aside0.mk (blk_below (g := gb110) (o := .cells #[.slice Ao12 t102.length co12, .slice Ao15 t105.length co15, .int .i64 t108, .int .i64 t109] 32 (0, 0)) (by (with_reducible repeat (first | refine blk_drewN ?_ _ | refine blk_drew ?_ | refine blk_alloc ?_ _)); refine blk_put (cs := #[.slice Ao12 t102.length co12, .slice Ao15 t105.length co15, .int .i64 t108, .int .i64 0]) ?_ 3 _ rfl; (with_reducible repeat (first | refine blk_drewN ?_ _ | refine blk_drew ?_ | refine blk_alloc ?_ _)); refine blk_put (cs := #[.slice Ao12 t102.length co12, .slice Ao15 t105.length co15, .int .i64 0, .int .i64 0]) ?_ 2 _ rfl; (with_reducible repeat (first | refine blk_drewN ?_ _ | refine blk_drew ?_ | refine blk_alloc ?_ _)); refine blk_put (cs := #[.slice Ao12 t102.length co12, .slice none 0 0, .int .i64 0, .int .i64 0]) ?_ 1 _ rfl; (with_reducible repeat (first | refine blk_drewN ?_ _ | refine blk_drew ?_ | refine blk_alloc ?_ _)); refine blk_put (cs := #[.slice none 0 0, .slice none 0 0, .int .i64 0, .int .i64 0]) ?_ 0 _ rfl; (with_reducible repeat (first | refine blk_drewN ?_ _ | refine blk_drew ?_ | refine blk_alloc ?_ _)); exact BK110.out) hb); have n6_ := Aside0.mk (below_step (by repeat (first | (with_reducible first | exact HB.out | apply below_alloc | apply pw_below_drewN | apply below_drew1 | refine below_set ?_ GE101.out | refine below_set ?_ GE110.out) | exact HB.out)) hb); clear HO104; clear HO107; clear BK101; clear BK110; clear HB; have HO104 := n0_; have HO107 := n1_; have HO113 := n2_; have HO116 := n3_; have BK101 := n4_; have BK110 := n5_; have HB := n6_; clear n0_ n1_ n2_ n3_ n4_ n5_ n6_; (try clear hb); (try clear hb2); (try clear hk); (try clear hi); (try clear ho0); (try clear ho1); obtain ⟨Ao17, co17, eo17⟩ := Kd.R_slice HO113.out; subst eo17; obtain ⟨Ao18, co18, eo18⟩ := Kd.R_slice HO116.out; subst eo18) | ((with_reducible refine gate_callee (f := 8) rfl ?_); refine goesL_ (some 25) rfl rfl Tryd.func8 (by kernel_rfl) rfl #[.agg #[.slice Ao17 t111.length co17, .slice Ao18 t114.length co18, .int .i64 t117, .int .i64 t118]] rfl (by (try simp only [List.map_toArray, List.map_cons, List.map_nil]); first | done | rfl | (simp only [List.length_drop, List.length_take]; rfl)) ?_; (with_reducible refine (tenter_Hangs.calls k _ _ t111 _ _ t114 t117 t118 t119 t122 _ ?side1 ?side2 ?side3 ?side4 A6.out).mono ?_); (case side1 => repeat (first | exact (Kd.R_reads' HO113.out).2.2 | (with_reducible refine Kd.C_alloc ?_ _) | (with_reducible refine Kd.C_drewN ?_ _) | (with_reducible refine Kd.C_drew ?_))); (case side2 => exact (Kd.R_reads' HO113.out).2.1); (case side3 => repeat (first | exact (Kd.R_reads' HO116.out).2.2 | (with_reducible refine Kd.C_alloc ?_ _) | (with_reducible refine Kd.C_drewN ?_ _) | (with_reducible refine Kd.C_drew ?_))); (case side4 => exact (Kd.R_reads' HO116.out).2.1); rintro e w19 ⟨v120, rfl, ho0, hb⟩; refine ⟨_, rfl, ?_⟩; have n0_ := Aside0.mk (Kd.R_below (by (with_reducible repeat (first | apply Kd.R_alloc | apply Kd.R_drewN | apply Kd.R_drew)); exact HO104.out) hb); have n1_ := Aside0.mk (Kd.R_below (by (with_reducible repeat (first | apply Kd.R_alloc | apply Kd.R_drewN | apply Kd.R_drew)); exact HO107.out) hb); have n2_ := Aside0.mk (Kd.R_below (by (with_reducible repeat (first | apply Kd.R_alloc | apply Kd.R_drewN | apply Kd.R_drew)); exact HO113.out) hb); have n3_ := Aside0.mk (Kd.R_below (by (with_reducible repeat (first | apply Kd.R_alloc | apply Kd.R_drewN | apply Kd.R_drew)); exact HO116.out) hb); have n4_ := Aside0.mk (Kd.R_lower ho0 (below_size (by repeat (first | (with_reducible first | exact HB.out | apply below_alloc | apply pw_below_drewN | apply below_drew1 | refine below_set ?_ GE101.out | refine below_set ?_ GE110.out) | exact HB.out)))); have n5_ := Aside0.mk (blk_below (g := gb101) (o := .cells #[.slice A0_0 l0_0.length c0_0, .int .u8 a0_1, .int .u8 a0_2, .int .u8 a0_3, .int .u8 a0_4, .int .u8 a0_5, .slice A0_6 l0_6.length c0_6] 26 (0, 0)) (by (with_reducible repeat (first | refine blk_drewN ?_ _ | refine blk_drew ?_ | refine blk_alloc ?_ _)); exact BK101.out) hb); have n6_ := Aside0.mk (blk_below (g := gb110) (o := .cells #[.slice Ao12 t102.length co12, .slice Ao15 t105.length co15, .int .i64 t108, .int .i64 t109] 32 (0, 0)) (by (with_reducible repeat (first | refine blk_drewN ?_ _ | refine blk_drew ?_ | refine blk_alloc ?_ _)); exact BK110.out) hb); have n7_ := Aside0.mk (below_step (by repeat (first | (with_reducible first | exact HB.out | apply below_alloc | apply pw_below_drewN | apply below_drew1 | refine below_set ?_ GE101.out | refine below_set ?_ GE110.out) | exact HB.out)) hb); clear HO104; clear HO107; clear HO113; clear HO116; clear BK101; clear BK110; clear HB; have HO104 := n0_; have HO107 := n1_; have HO113 := n2_; have HO116 := n3_; have HO121 := n4_; have BK101 := n5_; have BK110 := n6_; have HB := n7_; clear n0_ n1_ n2_ n3_ n4_ n5_ n6_ n7_; (try clear hb); (try clear hb2); (try clear hk); (try clear hi); (try clear ho0)))
 (try simp only [Act.put, List.setIfInBounds_toArray, List.set_cons_zero, List.set_cons_succ])
 go_cut [37] (fun v37 wc => ∃ (kq : Nat) (x37_6 : Bool), v37 = .bool x37_6 ∧ Aside0 (walkmilllaw05_TenterNever.j0 kq l1 a2 t119 x37_6 t102 t105 t108 t109 = some r) ∧ Aside0 (kq ≤ k) ∧ Aside0 (Kd.R k40 40 wc w.heap.size (fun _ => True) v120 t119) ∧ Aside0 (Kd.R k42 42 wc w.heap.size (fun _ => True) (.slice Ao12 t102.length co12) t102) ∧ Aside0 (Kd.R (Kd.int .i64) 3 wc w.heap.size (fun _ => True) (.slice Ao15 t105.length co15) t105) ∧ Aside0 (wc.heap[gb101]? = some (.cells #[(.slice A0_0 l0_0.length c0_0), .int .u8 a0_1, .int .u8 a0_2, .int .u8 a0_3, .int .u8 a0_4, .int .u8 a0_5, (.slice A0_6 l0_6.length c0_6)] 26 (0, 0))) ∧ Aside0 (wc.heap[gb110]? = some (.cells #[(.slice Ao12 t102.length co12), (.slice Ao15 t105.length co15), .int .i64 t108, .int .i64 t109] 32 (0, 0))) ∧ Aside0 (Below w.heap.size w wc))
 case first =>
  have H := HC7.out
  clear HC7
  by_cases c20 : t122 = 0
  ·
   rw [if_pos c20] at H
   have c20b0 : (t122 == 0) = true := beq_iff_eq.mpr c20
   have c20b1 : (t122 != 0) = false := bne_eq_false_iff_eq.mpr c20
   clear c20
   (first | rw [c20b0] | (simp only [i64_w, i32_w]; rw [c20b0]) | skip)
   have H' := Aside0.mk H
   clear H
   obtain ⟨Ao21, co21, eo21⟩ := Kd.R_slice HO121.out
   subst eo21
   have hnb22 := NB110_101.out
   have hnc22 := NB101_110.out
   have hcz23_0 : w19.cell? ⟨gb110, 0, none⟩ = some (.slice Ao12 t102.length co12) := (blk_cell BK110.out 0).trans rfl
   have hcz23_1 : w19.cell? ⟨gb110, 1, none⟩ = some (.slice Ao15 t105.length co15) := (blk_cell BK110.out 1).trans rfl
   have hcz23_2 : w19.cell? ⟨gb110, 2, none⟩ = some (.int .i64 t108) := (blk_cell BK110.out 2).trans rfl
   have hcz23_3 : w19.cell? ⟨gb110, 3, none⟩ = some (.int .i64 t109) := (blk_cell BK110.out 3).trans rfl
   have hfz23_0 := blk_frozen BK110.out 0
   have hfz23_1 := blk_frozen BK110.out 1
   have hfz23_2 := blk_frozen BK110.out 2
   have hfz23_3 := blk_frozen BK110.out 3
   go_wp2
   go_meet
   case rel => exact ⟨_, (((t119.length : Int) != (t102.length : Int))), (by first | rfl | (simp; done) | (simp [*]; done)), H', ⟨by first | omega | exact Nat.le_refl _⟩, ⟨by (with_reducible repeat (first | apply Kd.R_alloc | apply Kd.R_drewN | apply Kd.R_drew)); exact HO121.out⟩, ⟨by (with_reducible repeat (first | apply Kd.R_alloc | apply Kd.R_drewN | apply Kd.R_drew)); exact Kd.R_mono HO104.out (fun _ hk => trivial)⟩, ⟨by (with_reducible repeat (first | apply Kd.R_alloc | apply Kd.R_drewN | apply Kd.R_drew)); exact Kd.R_mono HO107.out (fun _ hk => trivial)⟩, ⟨by (with_reducible repeat (first | refine blk_drewN ?_ _ | refine blk_drew ?_ | refine blk_alloc ?_ _)); exact BK101.out⟩, ⟨by (with_reducible repeat (first | refine blk_drewN ?_ _ | refine blk_drew ?_ | refine blk_alloc ?_ _)); exact BK110.out⟩, ⟨by repeat (first | (with_reducible first | exact HB.out | apply below_alloc | apply pw_below_drewN | apply below_drew1 | refine below_set ?_ GE101.out | refine below_set ?_ GE110.out) | exact HB.out)⟩⟩
  ·
   rw [if_neg c20] at H
   have c20b0 : (t122 == 0) = false := beq_eq_false_iff_ne.mpr c20
   have c20b1 : (t122 != 0) = true := bne_iff_ne.mpr c20
   (first | rw [c20b0] | (simp only [i64_w, i32_w]; rw [c20b0]) | skip)
   exact (walkmilllaw05_TenterNever.dead_j0 _ _ _ _ _ _ _ _ _ H HRT.out).elim
 case rest =>
  clear HC7
  try clear c1
  try clear c2
  try clear p2
  try clear c3
  try clear c7
  try clear c8
  try clear c9
  try clear c13
  try clear c20
  try clear c20b0
  try clear c20b1
  try clear c22
  try clear hcz14_0
  try clear hcz14_1
  try clear hcz14_2
  try clear hcz14_3
  try clear hcz23_0
  try clear hcz23_1
  try clear hcz23_2
  try clear hcz23_3
  try clear hcz9_0
  try clear hcz9_1
  try clear hcz9_2
  try clear hcz9_3
  try clear hcz9_4
  try clear hcz9_5
  try clear hcz9_6
  try clear hfz14_0
  try clear hfz14_1
  try clear hfz14_2
  try clear hfz14_3
  try clear hfz23_0
  try clear hfz23_1
  try clear hfz23_2
  try clear hfz23_3
  try clear hfz9_0
  try clear hfz9_1
  try clear hfz9_2
  try clear hfz9_3
  try clear hfz9_4
  try clear hfz9_5
  try clear hfz9_6
  obtain ⟨kq, x37_6, rfl, HA, HJ6, HO_8, HO_111000, HO_111001, BK101, BK110, HB⟩ := hcut
  cases kq with
  | zero => exact absurd HA.out (by simp [walkmilllaw05_TenterNever.j0])
  | succ kj6 =>
   have H := HA.out
   clear HA
   simp only [walkmilllaw05_TenterNever.j0] at H
   by_cases c24 : x37_6 = true
   ·
    subst c24
    have H1 : (some false) = some r := by rw [if_pos rfl] at H; exact H
    clear H
    have H := H1
    clear H1
    exact absurd ((Option.some.inj H).trans HRT.out) (by simp)
   ·
    replace c24 := Bool.eq_false_iff.mpr c24
    subst c24
    have H1 : (walkmilllaw05_TenterNever.l0 kj6 l1 a2 t119 0 t102 t105 t108 t109) = some r := by rw [if_neg (show ¬ (false = true) by decide)] at H; exact H
    clear H
    have H := H1
    clear H1
    have H' := Aside0.mk H
    clear H
    go_wp2
    go_loopg [10] kj6 (fun kq v10 w' => ∃ (x10_2 : Int), v10 = .int .i64 x10_2 ∧ Aside0 (walkmilllaw05_TenterNever.l0 kq l1 a2 t119 x10_2 t102 t105 t108 t109 = some r) ∧ Aside0 (kq ≤ kj6) ∧ Aside0 (Kd.R k40 40 w' w.heap.size (fun _ => True) v120 t119) ∧ Aside0 (Kd.R k42 42 w' w.heap.size (fun _ => True) (.slice Ao12 t102.length co12) t102) ∧ Aside0 (Kd.R (Kd.int .i64) 3 w' w.heap.size (fun _ => True) (.slice Ao15 t105.length co15) t105) ∧ Aside0 (w'.heap[gb101]? = some (.cells #[(.slice A0_0 l0_0.length c0_0), .int .u8 a0_1, .int .u8 a0_2, .int .u8 a0_3, .int .u8 a0_4, .int .u8 a0_5, (.slice A0_6 l0_6.length c0_6)] 26 (0, 0))) ∧ Aside0 (w'.heap[gb110]? = some (.cells #[(.slice Ao12 t102.length co12), (.slice Ao15 t105.length co15), .int .i64 t108, .int .i64 t109] 32 (0, 0))) ∧ Aside0 (Below w.heap.size w w'))
    case atStart => exact ⟨(0), (by first | rfl | (simp; done) | (simp [*]; done)), H', ⟨Nat.le_refl _⟩, ⟨by (with_reducible repeat (first | apply Kd.R_alloc | apply Kd.R_drewN | apply Kd.R_drew)); exact HO_8.out⟩, ⟨by (with_reducible repeat (first | apply Kd.R_alloc | apply Kd.R_drewN | apply Kd.R_drew)); exact HO_111000.out⟩, ⟨by (with_reducible repeat (first | apply Kd.R_alloc | apply Kd.R_drewN | apply Kd.R_drew)); exact HO_111001.out⟩, ⟨by (with_reducible repeat (first | refine blk_drewN ?_ _ | refine blk_drew ?_ | refine blk_alloc ?_ _)); exact BK101.out⟩, ⟨by (with_reducible repeat (first | refine blk_drewN ?_ _ | refine blk_drew ?_ | refine blk_alloc ?_ _)); exact BK110.out⟩, ⟨by repeat (first | (with_reducible first | exact HB.out | apply below_alloc | apply pw_below_drewN | apply below_drew1 | refine below_set ?_ GE101.out | refine below_set ?_ GE110.out) | exact HB.out)⟩⟩
    case round =>
     clear H'
     try clear c1
     try clear c2
     try clear p2
     try clear c3
     try clear c7
     try clear c8
     try clear c9
     try clear c13
     try clear c20
     try clear c20b0
     try clear c20b1
     try clear c22
     try clear c24
     try clear hcz14_0
     try clear hcz14_1
     try clear hcz14_2
     try clear hcz14_3
     try clear hcz23_0
     try clear hcz23_1
     try clear hcz23_2
     try clear hcz23_3
     try clear hcz9_0
     try clear hcz9_1
     try clear hcz9_2
     try clear hcz9_3
     try clear hcz9_4
     try clear hcz9_5
     try clear hcz9_6
     try clear hfz14_0
     try clear hfz14_1
     try clear hfz14_2
     try clear hfz14_3
     try clear hfz23_0
     try clear hfz23_1
     try clear hfz23_2
     try clear hfz23_3
     try clear hfz9_0
     try clear hfz9_1
     try clear hfz9_2
     try clear hfz9_3
     try clear hfz9_4
     try clear hfz9_5
     try clear hfz9_6
     try clear p2
     obtain ⟨x10_2, rfl, HA, HK2, HO_8, HO_111000, HO_111001, BK101, BK110, HB⟩ := hrel
     cases gk with
     | zero => exact absurd HA.out (by simp [walkmilllaw05_TenterNever.l0])
     | succ k2 =>
      have H := HA.out
      clear HA
      simp only [walkmilllaw05_TenterNever.l0] at H
      by_cases c25 : x10_2 < (t119.length : Int)
      ·
       rw [if_pos c25] at H
       have c25b0 : decide (x10_2 < (t119.length : Int)) = true := decide_eq_true c25
       clear c25
       by_cases c26 : 0 ≤ x10_2
       ·
        rw [if_pos c26] at H
        have c26b0 : decide (0 ≤ x10_2) = true := decide_eq_true c26
        clear c26
        by_cases c27 : x10_2 < (t102.length : Int)
        ·
         rw [if_pos c27] at H
         have c27b0 : decide (x10_2 < (t102.length : Int)) = true := decide_eq_true c27
         clear c27
         replace H := Option.bind_eq_some_iff.mp H
         obtain ⟨t126, A280, H⟩ := H
         replace H : ((walkmilllaw05_inside.f ((rd_T42 t102 x10_2).f0.f0) ((rd_T42 t102 x10_2).f0.f1) t126).bind fun t127 => ((walkmilllaw05_own.f t102 t105 t108 t109).bind fun bt128 => ((tenter_Stretched.f bt128.1 bt128.2.1 bt128.2.2.1 bt128.2.2.2 x10_2 (wrap64 (1 + (Int.tmod (wrap64 (a2)) 1200)))).bind fun bt136 => (if bt136.2.2 = 0 then (if bt136.1 = true then (if ((wrap64 ((wrap64 (1 + (Int.tmod (wrap64 (a2)) 1200))) * 1000)) > (wrap64 (t127 * (wrap64 (1000 + t109))))) then (if (wrap64 ((wrap64 (1 + (Int.tmod (wrap64 (a2)) 1200))) * 1000)) > (wrap64 (t127 * (wrap64 (1000 + t109)))) then (if bt136.2.1 = true then (walkmilllaw05_TenterNever.j2 k2 l1 a2 t119 x10_2 t127 (!bt136.2.1) t102 t105 t108 t109 ((rd_T42 t102 x10_2).f0.f0) ((rd_T42 t102 x10_2).f0.f1)) else (walkmilllaw05_TenterNever.j2 k2 l1 a2 t119 x10_2 t127 true t102 t105 t108 t109 ((rd_T42 t102 x10_2).f0.f0) ((rd_T42 t102 x10_2).f0.f1))) else (walkmilllaw05_TenterNever.j2 k2 l1 a2 t119 x10_2 t127 (!bt136.2.1) t102 t105 t108 t109 ((rd_T42 t102 x10_2).f0.f0) ((rd_T42 t102 x10_2).f0.f1))) else (walkmilllaw05_TenterNever.j2 k2 l1 a2 t119 x10_2 t127 true t102 t105 t108 t109 ((rd_T42 t102 x10_2).f0.f0) ((rd_T42 t102 x10_2).f0.f1))) else (if (wrap64 ((wrap64 (1 + (Int.tmod (wrap64 (a2)) 1200))) * 1000)) > (wrap64 (t127 * (wrap64 (1000 + t109)))) then (if bt136.2.1 = true then (walkmilllaw05_TenterNever.j2 k2 l1 a2 t119 x10_2 t127 false t102 t105 t108 t109 ((rd_T42 t102 x10_2).f0.f0) ((rd_T42 t102 x10_2).f0.f1)) else (walkmilllaw05_TenterNever.j2 k2 l1 a2 t119 x10_2 t127 true t102 t105 t108 t109 ((rd_T42 t102 x10_2).f0.f0) ((rd_T42 t102 x10_2).f0.f1))) else (walkmilllaw05_TenterNever.j2 k2 l1 a2 t119 x10_2 t127 false t102 t105 t108 t109 ((rd_T42 t102 x10_2).f0.f0) ((rd_T42 t102 x10_2).f0.f1)))) else (walkmilllaw05_TenterNever.j2 k2 l1 a2 t119 x10_2 t127 true t102 t105 t108 t109 ((rd_T42 t102 x10_2).f0.f0) ((rd_T42 t102 x10_2).f0.f1)))))) = some r := H
         have A28 := Aside0.mk A280
         clear A280
         replace H := Option.bind_eq_some_iff.mp H
         obtain ⟨t127, A290, H⟩ := H
         replace H : ((walkmilllaw05_own.f t102 t105 t108 t109).bind fun bt128 => ((tenter_Stretched.f bt128.1 bt128.2.1 bt128.2.2.1 bt128.2.2.2 x10_2 (wrap64 (1 + (Int.tmod (wrap64 (a2)) 1200)))).bind fun bt136 => (if bt136.2.2 = 0 then (if bt136.1 = true then (if ((wrap64 ((wrap64 (1 + (Int.tmod (wrap64 (a2)) 1200))) * 1000)) > (wrap64 (t127 * (wrap64 (1000 + t109))))) then (if (wrap64 ((wrap64 (1 + (Int.tmod (wrap64 (a2)) 1200))) * 1000)) > (wrap64 (t127 * (wrap64 (1000 + t109)))) then (if bt136.2.1 = true then (walkmilllaw05_TenterNever.j2 k2 l1 a2 t119 x10_2 t127 (!bt136.2.1) t102 t105 t108 t109 ((rd_T42 t102 x10_2).f0.f0) ((rd_T42 t102 x10_2).f0.f1)) else (walkmilllaw05_TenterNever.j2 k2 l1 a2 t119 x10_2 t127 true t102 t105 t108 t109 ((rd_T42 t102 x10_2).f0.f0) ((rd_T42 t102 x10_2).f0.f1))) else (walkmilllaw05_TenterNever.j2 k2 l1 a2 t119 x10_2 t127 (!bt136.2.1) t102 t105 t108 t109 ((rd_T42 t102 x10_2).f0.f0) ((rd_T42 t102 x10_2).f0.f1))) else (walkmilllaw05_TenterNever.j2 k2 l1 a2 t119 x10_2 t127 true t102 t105 t108 t109 ((rd_T42 t102 x10_2).f0.f0) ((rd_T42 t102 x10_2).f0.f1))) else (if (wrap64 ((wrap64 (1 + (Int.tmod (wrap64 (a2)) 1200))) * 1000)) > (wrap64 (t127 * (wrap64 (1000 + t109)))) then (if bt136.2.1 = true then (walkmilllaw05_TenterNever.j2 k2 l1 a2 t119 x10_2 t127 false t102 t105 t108 t109 ((rd_T42 t102 x10_2).f0.f0) ((rd_T42 t102 x10_2).f0.f1)) else (walkmilllaw05_TenterNever.j2 k2 l1 a2 t119 x10_2 t127 true t102 t105 t108 t109 ((rd_T42 t102 x10_2).f0.f0) ((rd_T42 t102 x10_2).f0.f1))) else (walkmilllaw05_TenterNever.j2 k2 l1 a2 t119 x10_2 t127 false t102 t105 t108 t109 ((rd_T42 t102 x10_2).f0.f0) ((rd_T42 t102 x10_2).f0.f1)))) else (walkmilllaw05_TenterNever.j2 k2 l1 a2 t119 x10_2 t127 true t102 t105 t108 t109 ((rd_T42 t102 x10_2).f0.f0) ((rd_T42 t102 x10_2).f0.f1))))) = some r := H
         have A29 := Aside0.mk A290
         clear A290
         replace H := Option.bind_eq_some_iff.mp H
         obtain ⟨⟨t128, t131, t134, t135⟩, A300, H⟩ := H
         replace H : ((tenter_Stretched.f t128 t131 t134 t135 x10_2 (wrap64 (1 + (Int.tmod (wrap64 (a2)) 1200)))).bind fun bt136 => (if bt136.2.2 = 0 then (if bt136.1 = true then (if ((wrap64 ((wrap64 (1 + (Int.tmod (wrap64 (a2)) 1200))) * 1000)) > (wrap64 (t127 * (wrap64 (1000 + t109))))) then (if (wrap64 ((wrap64 (1 + (Int.tmod (wrap64 (a2)) 1200))) * 1000)) > (wrap64 (t127 * (wrap64 (1000 + t109)))) then (if bt136.2.1 = true then (walkmilllaw05_TenterNever.j2 k2 l1 a2 t119 x10_2 t127 (!bt136.2.1) t102 t105 t108 t109 ((rd_T42 t102 x10_2).f0.f0) ((rd_T42 t102 x10_2).f0.f1)) else (walkmilllaw05_TenterNever.j2 k2 l1 a2 t119 x10_2 t127 true t102 t105 t108 t109 ((rd_T42 t102 x10_2).f0.f0) ((rd_T42 t102 x10_2).f0.f1))) else (walkmilllaw05_TenterNever.j2 k2 l1 a2 t119 x10_2 t127 (!bt136.2.1) t102 t105 t108 t109 ((rd_T42 t102 x10_2).f0.f0) ((rd_T42 t102 x10_2).f0.f1))) else (walkmilllaw05_TenterNever.j2 k2 l1 a2 t119 x10_2 t127 true t102 t105 t108 t109 ((rd_T42 t102 x10_2).f0.f0) ((rd_T42 t102 x10_2).f0.f1))) else (if (wrap64 ((wrap64 (1 + (Int.tmod (wrap64 (a2)) 1200))) * 1000)) > (wrap64 (t127 * (wrap64 (1000 + t109)))) then (if bt136.2.1 = true then (walkmilllaw05_TenterNever.j2 k2 l1 a2 t119 x10_2 t127 false t102 t105 t108 t109 ((rd_T42 t102 x10_2).f0.f0) ((rd_T42 t102 x10_2).f0.f1)) else (walkmilllaw05_TenterNever.j2 k2 l1 a2 t119 x10_2 t127 true t102 t105 t108 t109 ((rd_T42 t102 x10_2).f0.f0) ((rd_T42 t102 x10_2).f0.f1))) else (walkmilllaw05_TenterNever.j2 k2 l1 a2 t119 x10_2 t127 false t102 t105 t108 t109 ((rd_T42 t102 x10_2).f0.f0) ((rd_T42 t102 x10_2).f0.f1)))) else (walkmilllaw05_TenterNever.j2 k2 l1 a2 t119 x10_2 t127 true t102 t105 t108 t109 ((rd_T42 t102 x10_2).f0.f0) ((rd_T42 t102 x10_2).f0.f1)))) = some r := H
         have A30 := Aside0.mk A300
         clear A300
         replace H := Option.bind_eq_some_iff.mp H
         obtain ⟨⟨t136, t137, t138⟩, A310, H⟩ := H
         replace H : (if t138 = 0 then (if t136 = true then (if ((wrap64 ((wrap64 (1 + (Int.tmod (wrap64 (a2)) 1200))) * 1000)) > (wrap64 (t127 * (wrap64 (1000 + t109))))) then (if (wrap64 ((wrap64 (1 + (Int.tmod (wrap64 (a2)) 1200))) * 1000)) > (wrap64 (t127 * (wrap64 (1000 + t109)))) then (if t137 = true then (walkmilllaw05_TenterNever.j2 k2 l1 a2 t119 x10_2 t127 (!t137) t102 t105 t108 t109 ((rd_T42 t102 x10_2).f0.f0) ((rd_T42 t102 x10_2).f0.f1)) else (walkmilllaw05_TenterNever.j2 k2 l1 a2 t119 x10_2 t127 true t102 t105 t108 t109 ((rd_T42 t102 x10_2).f0.f0) ((rd_T42 t102 x10_2).f0.f1))) else (walkmilllaw05_TenterNever.j2 k2 l1 a2 t119 x10_2 t127 (!t137) t102 t105 t108 t109 ((rd_T42 t102 x10_2).f0.f0) ((rd_T42 t102 x10_2).f0.f1))) else (walkmilllaw05_TenterNever.j2 k2 l1 a2 t119 x10_2 t127 true t102 t105 t108 t109 ((rd_T42 t102 x10_2).f0.f0) ((rd_T42 t102 x10_2).f0.f1))) else (if (wrap64 ((wrap64 (1 + (Int.tmod (wrap64 (a2)) 1200))) * 1000)) > (wrap64 (t127 * (wrap64 (1000 + t109)))) then (if t137 = true then (walkmilllaw05_TenterNever.j2 k2 l1 a2 t119 x10_2 t127 false t102 t105 t108 t109 ((rd_T42 t102 x10_2).f0.f0) ((rd_T42 t102 x10_2).f0.f1)) else (walkmilllaw05_TenterNever.j2 k2 l1 a2 t119 x10_2 t127 true t102 t105 t108 t109 ((rd_T42 t102 x10_2).f0.f0) ((rd_T42 t102 x10_2).f0.f1))) else (walkmilllaw05_TenterNever.j2 k2 l1 a2 t119 x10_2 t127 false t102 t105 t108 t109 ((rd_T42 t102 x10_2).f0.f0) ((rd_T42 t102 x10_2).f0.f1)))) else (walkmilllaw05_TenterNever.j2 k2 l1 a2 t119 x10_2 t127 true t102 t105 t108 t109 ((rd_T42 t102 x10_2).f0.f0) ((rd_T42 t102 x10_2).f0.f1))) = some r := H
         have A31 := Aside0.mk A310
         clear A310
         have HC32 := Aside0.mk H
         clear H
         obtain ⟨Ao33, co33, eo33⟩ := Kd.R_slice HO_8.out
         subst eo33
         have hnb34 := NB110_101.out
         have hnc34 := NB101_110.out
         have hcz35_0 : wr.cell? ⟨gb110, 0, none⟩ = some (.slice Ao12 t102.length co12) := (blk_cell BK110.out 0).trans rfl
         have hcz35_1 : wr.cell? ⟨gb110, 1, none⟩ = some (.slice Ao15 t105.length co15) := (blk_cell BK110.out 1).trans rfl
         have hcz35_2 : wr.cell? ⟨gb110, 2, none⟩ = some (.int .i64 t108) := (blk_cell BK110.out 2).trans rfl
         have hcz35_3 : wr.cell? ⟨gb110, 3, none⟩ = some (.int .i64 t109) := (blk_cell BK110.out 3).trans rfl
         have hfz35_0 := blk_frozen BK110.out 0
         have hfz35_1 := blk_frozen BK110.out 1
         have hfz35_2 := blk_frozen BK110.out 2
         have hfz35_3 := blk_frozen BK110.out 3
         have p124 : 0 ≤ (x10_2 : Int) := of_decide_eq_true (by first | (with_reducible assumption) | assumption)
         have q124 : x10_2 < (t102.length : Int) := of_decide_eq_true (by first | (with_reducible assumption) | assumption)
         obtain ⟨ad124, e124, hx124_0, hx124_1, hx124_2, hx124_3⟩ := at_T42 (Kd.R_reads' HO_111000.out).2.2 x10_2 p124 q124
         cases e124
         replace p124 := eq_true p124
         replace q124 := eq_true q124
         try go_wp2_with (first | ((with_reducible refine gate_dst (N := 11) rfl ?_); (try (refine gate_guard (by rfl) ?_; dsimp only)); refine box_event ?hg (N := 11) ?hd (cs := #[.int .i64 0, .int .i64 0]) (t := 40) ?hr ?_; (case hd => rfl); (case hg => rfl); (case hr => first | (go_simp; done) | (go_simp; rfl)); intro gb125 hg w36 hbox hb; have n0_ := Aside0.mk (Kd.R_below (Kd.R_elderB (by (with_reducible repeat (first | apply Kd.R_alloc | apply Kd.R_drewN | apply Kd.R_drew)); exact HO_8.out) gb125 (Nat.le_of_eq hg.symm)) hb); have n1_ := Aside0.mk (Kd.R_below (by (with_reducible repeat (first | apply Kd.R_alloc | apply Kd.R_drewN | apply Kd.R_drew)); exact HO_111000.out) hb); have n2_ := Aside0.mk (Kd.R_below (by (with_reducible repeat (first | apply Kd.R_alloc | apply Kd.R_drewN | apply Kd.R_drew)); exact HO_111001.out) hb); have n3_ := Aside0.mk (blk_below (g := gb101) (o := .cells #[.slice A0_0 l0_0.length c0_0, .int .u8 a0_1, .int .u8 a0_2, .int .u8 a0_3, .int .u8 a0_4, .int .u8 a0_5, .slice A0_6 l0_6.length c0_6] 26 (0, 0)) (by (with_reducible repeat (first | refine blk_drewN ?_ _ | refine blk_drew ?_ | refine blk_alloc ?_ _)); exact BK101.out) hb); have n4_ := Aside0.mk (blk_below (g := gb110) (o := .cells #[.slice (some ad124) t102.length co12, .slice Ao15 t105.length co15, .int .i64 t108, .int .i64 t109] 32 (0, 0)) (by (with_reducible repeat (first | refine blk_drewN ?_ _ | refine blk_drew ?_ | refine blk_alloc ?_ _)); exact BK110.out) hb); have n5_ := Aside0.mk (below_step (by repeat (first | (with_reducible first | exact HB.out | apply below_alloc | apply pw_below_drewN | apply below_drew1 | refine below_set ?_ GE101.out | refine below_set ?_ GE110.out) | exact HB.out)) hb); have n6_ := Aside0.mk (hbox); have n7_ := Aside0.mk ((by rw [hg]; exact (below_size (by repeat (first | (with_reducible first | exact HB.out | apply below_alloc | apply pw_below_drewN | apply below_drew1 | refine below_set ?_ GE101.out | refine below_set ?_ GE110.out) | exact HB.out))) : w.heap.size ≤ gb125)); have n8_ := Aside0.mk ((by rw [hg]; exact (below_size (by repeat (first | (with_reducible first | exact HB.out | apply below_alloc | apply pw_below_drewN | apply below_drew1 | refine below_set ?_ GE101.out | refine below_set ?_ GE110.out) | exact HB.out))) : w.heap.size ≤ gb125)); have n9_ := Aside0.mk ((by rw [hg]; exact Nat.ne_of_lt (blk_lt (g := gb101) (o := .cells #[.slice A0_0 l0_0.length c0_0, .int .u8 a0_1, .int .u8 a0_2, .int .u8 a0_3, .int .u8 a0_4, .int .u8 a0_5, .slice A0_6 l0_6.length c0_6] 26 (0, 0)) (by (with_reducible repeat (first | refine blk_drewN ?_ _ | refine blk_drew ?_ | refine blk_alloc ?_ _)); exact BK101.out)) : gb101 ≠ gb125)); have n10_ := Aside0.mk ((by rw [hg]; exact Nat.ne_of_gt (blk_lt (g := gb101) (o := .cells #[.slice A0_0 l0_0.length c0_0, .int .u8 a0_1, .int .u8 a0_2, .int .u8 a0_3, .int .u8 a0_4, .int .u8 a0_5, .slice A0_6 l0_6.length c0_6] 26 (0, 0)) (by (with_reducible repeat (first | refine blk_drewN ?_ _ | refine blk_drew ?_ | refine blk_alloc ?_ _)); exact BK101.out)) : gb125 ≠ gb101)); have n11_ := Aside0.mk ((by rw [hg]; exact Nat.ne_of_lt (blk_lt (g := gb110) (o := .cells #[.slice (some ad124) t102.length co12, .slice Ao15 t105.length co15, .int .i64 t108, .int .i64 t109] 32 (0, 0)) (by (with_reducible repeat (first | refine blk_drewN ?_ _ | refine blk_drew ?_ | refine blk_alloc ?_ _)); exact BK110.out)) : gb110 ≠ gb125)); have n12_ := Aside0.mk ((by rw [hg]; exact Nat.ne_of_gt (blk_lt (g := gb110) (o := .cells #[.slice (some ad124) t102.length co12, .slice Ao15 t105.length co15, .int .i64 t108, .int .i64 t109] 32 (0, 0)) (by (with_reducible repeat (first | refine blk_drewN ?_ _ | refine blk_drew ?_ | refine blk_alloc ?_ _)); exact BK110.out)) : gb125 ≠ gb110)); clear HO_8; clear HO_111000; clear HO_111001; clear BK101; clear BK110; clear HB; have HO_8 := n0_; have HO_111000 := n1_; have HO_111001 := n2_; have BK101 := n3_; have BK110 := n4_; have HB := n5_; have BK125 := n6_; have GW125 := n7_; have GE125 := n8_; have NB101_125 := n9_; have NB125_101 := n10_; have NB110_125 := n11_; have NB125_110 := n12_; clear n0_ n1_ n2_ n3_ n4_ n5_ n6_ n7_ n8_ n9_ n10_ n11_ n12_; clear hb hbox hg; have hnb37 := NB125_101.out; have hnc37 := NB101_125.out; have hnb38 := NB125_110.out; have hnc38 := NB110_125.out; have hcz39_0 : w36.cell? ⟨gb125, 0, none⟩ = some (.int .i64 0) := (blk_cell BK125.out 0).trans rfl; have hcz39_1 : w36.cell? ⟨gb125, 1, none⟩ = some (.int .i64 0) := (blk_cell BK125.out 1).trans rfl; have hfz39_0 := blk_frozen BK125.out 0; have hfz39_1 := blk_frozen BK125.out 1))
         have n0_ : Aside0 (Kd.R k40 40 ((w36.setCell ⟨gb125, 0, none⟩ (.int .i64 ((rd_T42 t102 x10_2).f0.f0))).setCell ⟨gb125, 1, none⟩ (.int .i64 ((rd_T42 t102 x10_2).f0.f1))) w.heap.size (fun k_ => k_ ≠ gb125) (.slice Ao33 t119.length co33) t119) := ⟨by (with_reducible repeat (first | apply Kd.R_alloc | apply Kd.R_drewN | apply Kd.R_drew)); exact Kd.R_mono (Kd.R_far (p := ⟨gb125, 1, none⟩) (Kd.R_far (p := ⟨gb125, 0, none⟩) (Kd.R_mono HO_8.out (fun k_ hk => (⟨hk, hk.2⟩ : _ ∧ k_ ≠ gb125))) (fun _ hk => hk.2) (.int .i64 ((rd_T42 t102 x10_2).f0.f0))) (fun _ hk => hk.2) (.int .i64 ((rd_T42 t102 x10_2).f0.f1))) (fun _ hk => hk.1.2)⟩
         have n1_ : Aside0 (Kd.R k42 42 ((w36.setCell ⟨gb125, 0, none⟩ (.int .i64 ((rd_T42 t102 x10_2).f0.f0))).setCell ⟨gb125, 1, none⟩ (.int .i64 ((rd_T42 t102 x10_2).f0.f1))) w.heap.size (fun _ => True) (.slice (some ad124) t102.length co12) t102) := ⟨by (with_reducible repeat (first | apply Kd.R_alloc | apply Kd.R_drewN | apply Kd.R_drew)); exact Kd.R_mono (Kd.R_far (p := ⟨gb125, 1, none⟩) (Kd.R_far (p := ⟨gb125, 0, none⟩) (Kd.R_types HO_111000.out BK125.out (by decide)) (fun _ hk => hk.2) (.int .i64 ((rd_T42 t102 x10_2).f0.f0))) (fun _ hk => hk.2) (.int .i64 ((rd_T42 t102 x10_2).f0.f1))) (fun _ hk => trivial)⟩
         have n2_ : Aside0 (Kd.R (Kd.int .i64) 3 ((w36.setCell ⟨gb125, 0, none⟩ (.int .i64 ((rd_T42 t102 x10_2).f0.f0))).setCell ⟨gb125, 1, none⟩ (.int .i64 ((rd_T42 t102 x10_2).f0.f1))) w.heap.size (fun _ => True) (.slice Ao15 t105.length co15) t105) := ⟨by (with_reducible repeat (first | apply Kd.R_alloc | apply Kd.R_drewN | apply Kd.R_drew)); exact Kd.R_mono (Kd.R_far (p := ⟨gb125, 1, none⟩) (Kd.R_far (p := ⟨gb125, 0, none⟩) (Kd.R_types HO_111001.out BK125.out (by decide)) (fun _ hk => hk.2) (.int .i64 ((rd_T42 t102 x10_2).f0.f0))) (fun _ hk => hk.2) (.int .i64 ((rd_T42 t102 x10_2).f0.f1))) (fun _ hk => trivial)⟩
         have n3_ : Aside0 (((w36.setCell ⟨gb125, 0, none⟩ (.int .i64 ((rd_T42 t102 x10_2).f0.f0))).setCell ⟨gb125, 1, none⟩ (.int .i64 ((rd_T42 t102 x10_2).f0.f1))).heap[gb101]? = some (.cells #[.slice A0_0 l0_0.length c0_0, .int .u8 a0_1, .int .u8 a0_2, .int .u8 a0_3, .int .u8 a0_4, .int .u8 a0_5, .slice A0_6 l0_6.length c0_6] 26 (0, 0))) := ⟨by (with_reducible repeat (first | refine blk_drewN ?_ _ | refine blk_drew ?_ | refine blk_alloc ?_ _)); refine blk_far ?_ NB101_125.out _; (with_reducible repeat (first | refine blk_drewN ?_ _ | refine blk_drew ?_ | refine blk_alloc ?_ _)); refine blk_far ?_ NB101_125.out _; (with_reducible repeat (first | refine blk_drewN ?_ _ | refine blk_drew ?_ | refine blk_alloc ?_ _)); exact BK101.out⟩
         have n4_ : Aside0 (((w36.setCell ⟨gb125, 0, none⟩ (.int .i64 ((rd_T42 t102 x10_2).f0.f0))).setCell ⟨gb125, 1, none⟩ (.int .i64 ((rd_T42 t102 x10_2).f0.f1))).heap[gb110]? = some (.cells #[.slice (some ad124) t102.length co12, .slice Ao15 t105.length co15, .int .i64 t108, .int .i64 t109] 32 (0, 0))) := ⟨by (with_reducible repeat (first | refine blk_drewN ?_ _ | refine blk_drew ?_ | refine blk_alloc ?_ _)); refine blk_far ?_ NB110_125.out _; (with_reducible repeat (first | refine blk_drewN ?_ _ | refine blk_drew ?_ | refine blk_alloc ?_ _)); refine blk_far ?_ NB110_125.out _; (with_reducible repeat (first | refine blk_drewN ?_ _ | refine blk_drew ?_ | refine blk_alloc ?_ _)); exact BK110.out⟩
         have n5_ : Aside0 (((w36.setCell ⟨gb125, 0, none⟩ (.int .i64 ((rd_T42 t102 x10_2).f0.f0))).setCell ⟨gb125, 1, none⟩ (.int .i64 ((rd_T42 t102 x10_2).f0.f1))).heap[gb125]? = some (.cells #[.int .i64 ((rd_T42 t102 x10_2).f0.f0), .int .i64 ((rd_T42 t102 x10_2).f0.f1)] 40 (0, 0))) := ⟨by (with_reducible repeat (first | refine blk_drewN ?_ _ | refine blk_drew ?_ | refine blk_alloc ?_ _)); refine blk_put (cs := #[.int .i64 ((rd_T42 t102 x10_2).f0.f0), .int .i64 0]) ?_ 1 _ rfl; (with_reducible repeat (first | refine blk_drewN ?_ _ | refine blk_drew ?_ | refine blk_alloc ?_ _)); refine blk_put (cs := #[.int .i64 0, .int .i64 0]) ?_ 0 _ rfl; (with_reducible repeat (first | refine blk_drewN ?_ _ | refine blk_drew ?_ | refine blk_alloc ?_ _)); exact BK125.out⟩
         have n6_ : Aside0 (Below w.heap.size w ((w36.setCell ⟨gb125, 0, none⟩ (.int .i64 ((rd_T42 t102 x10_2).f0.f0))).setCell ⟨gb125, 1, none⟩ (.int .i64 ((rd_T42 t102 x10_2).f0.f1)))) := ⟨by repeat (first | (with_reducible first | exact HB.out | apply below_alloc | apply pw_below_drewN | apply below_drew1 | refine below_set ?_ GE101.out | refine below_set ?_ GE110.out | refine below_set ?_ GE125.out) | exact HB.out)⟩
         (try clear HO_8)
         (try clear HO_111000)
         (try clear HO_111001)
         (try clear BK101)
         (try clear BK110)
         (try clear BK125)
         (try clear HB)
         generalize ((w36.setCell ⟨gb125, 0, none⟩ (.int .i64 ((rd_T42 t102 x10_2).f0.f0))).setCell ⟨gb125, 1, none⟩ (.int .i64 ((rd_T42 t102 x10_2).f0.f1))) = w40 at n0_ n1_ n2_ n3_ n4_ n5_ n6_ ⊢
         have HO_8 := n0_
         have HO_111000 := n1_
         have HO_111001 := n2_
         have BK101 := n3_
         have BK110 := n4_
         have BK125 := n5_
         have HB := n6_
         clear n0_ n1_ n2_ n3_ n4_ n5_ n6_
         have n0_ := Aside0.mk (Kd.R_drew HO_8.out)
         have n1_ := Aside0.mk (Kd.R_drew HO_111000.out)
         have n2_ := Aside0.mk (Kd.R_drew HO_111001.out)
         have n3_ := Aside0.mk (blk_drew BK101.out)
         have n4_ := Aside0.mk (blk_drew BK110.out)
         have n5_ := Aside0.mk (blk_drew BK125.out)
         have n6_ := Aside0.mk (below_drew1 HB.out)
         clear HO_8
         clear HO_111000
         clear HO_111001
         clear BK101
         clear BK110
         clear BK125
         clear HB
         have HO_8 := n0_
         have HO_111000 := n1_
         have HO_111001 := n2_
         have BK101 := n3_
         have BK110 := n4_
         have BK125 := n5_
         have HB := n6_
         clear n0_ n1_ n2_ n3_ n4_ n5_ n6_
         refine start_ (n := 11) (S := fun w' => w'.cell? ⟨gb125, 0, none⟩ = some (.int .i64 ((rd_T42 t102 x10_2).f0.f0)) ∧ w'.cell? ⟨gb125, 1, none⟩ = some (.int .i64 ((rd_T42 t102 x10_2).f0.f1))) (ds := []) #[false, false, false, false, false, false, false, false, false, false, false] (by kernel_rfl) rfl rfl ⟨(blk_cell BK125.out 0).trans rfl, (blk_cell BK125.out 1).trans rfl⟩ (fun hHeld => ?_); refine with_tabW walkmilllaw05_TenterNever.tab9 walkmilllaw05_TenterNever.bits9 (fun HT_ HW_ => ?_)
         generalize w40.drew = w41 at HO_8 HO_111000 HO_111001 BK101 BK110 BK125 HB hHeld ⊢
         refine pure_ (i := 1) (N := some 51) (v := ?_) (a' := ?_) #[false, true, false, false, false, false, false, false, false, false, false] rfl rfl (any_of HT_.out (by kernel_rfl)) (fun _ _ _ h => h) (Or.inl ⟨by rfl, ?_⟩) ?_ ?_
         rotate_left
         ·
          intro w'
          go_simp
          with_reducible rfl
         rotate_left
         ·
          simp only [Act.put, List.setIfInBounds_toArray, List.set_cons_zero, List.set_cons_succ, i64_w, i32_w]
          rfl
         refine pure_ (i := 2) (N := some 52) (v := ?_) (a' := ?_) #[false, true, true, false, false, false, false, false, false, false, false] rfl rfl (any_of HT_.out (by kernel_rfl)) (fun _ _ _ h => h) (Or.inl ⟨by rfl, ?_⟩) ?_ ?_
         rotate_left
         ·
          intro w'
          go_simp
          with_reducible rfl
         rotate_left
         ·
          simp only [Act.put, List.setIfInBounds_toArray, List.set_cons_zero, List.set_cons_succ, i64_w, i32_w]
          rfl
         refine pure_ (i := 5) (N := some 55) (v := ?_) (a' := ?_) #[false, true, true, false, false, true, false, false, false, false, false] rfl rfl (any_of HT_.out (by kernel_rfl)) (fun _ _ _ h => h) (Or.inl ⟨by rfl, ?_⟩) ?_ ?_
         rotate_left
         ·
          intro w'
          go_simp
          with_reducible rfl
         rotate_left
         ·
          simp only [Act.put, List.setIfInBounds_toArray, List.set_cons_zero, List.set_cons_succ, i64_w, i32_w]
          rfl
         refine pure_ (i := 6) (N := some 56) (v := ?_) (a' := ?_) #[false, true, true, false, false, true, true, false, false, false, false] rfl rfl (any_of HT_.out (by kernel_rfl)) (fun _ _ _ h => h) (Or.inl ⟨by rfl, ?_⟩) ?_ ?_
         rotate_left
         ·
          intro w'
          go_simp
          with_reducible rfl
         rotate_left
         ·
          simp only [Act.put, List.setIfInBounds_toArray, List.set_cons_zero, List.set_cons_succ, i64_w, i32_w]
          rfl
         refine pure_ (i := 7) (N := some 57) (v := ?_) (a' := ?_) #[false, true, true, false, false, true, true, true, false, false, false] rfl rfl (any_of HT_.out (by kernel_rfl)) (fun _ _ _ h => h) (Or.inl ⟨by rfl, ?_⟩) ?_ ?_
         rotate_left
         ·
          intro w'
          go_simp
          with_reducible rfl
         rotate_left
         ·
          simp only [Act.put, List.setIfInBounds_toArray, List.set_cons_zero, List.set_cons_succ, i64_w, i32_w]
          rfl
         refine pure_ (i := 8) (N := some 58) (v := ?_) (a' := ?_) #[false, true, true, false, false, true, true, true, true, false, false] rfl rfl (any_of HT_.out (by kernel_rfl)) (fun _ _ _ h => h) (Or.inl ⟨by rfl, ?_⟩) ?_ ?_
         rotate_left
         ·
          intro w'
          go_simp
          with_reducible rfl
         rotate_left
         ·
          simp only [Act.put, List.setIfInBounds_toArray, List.set_cons_zero, List.set_cons_succ, i64_w, i32_w]
          rfl
         refine take_ (i := 0) (N := some 50) (v := ?_) (a' := ?_) #[true, true, true, false, false, true, true, true, true, false, false] rfl rfl (take_ofW HT_.out HW_.out (by kernel_rfl)) (fun _ _ _ h => h) (Or.inl ⟨by rfl, ?_⟩) hHeld ?_ ?_
         rotate_left
         ·
          rintro w' ⟨s0, s1⟩
          go_simp
          with_reducible rfl
         rotate_left
         ·
          simp only [Act.put, List.setIfInBounds_toArray, List.set_cons_zero, List.set_cons_succ, i64_w, i32_w]
          rfl
         refine one_ (i := 3) (N := some 53) #[true, true, true, true, false, true, true, true, true, false, false] rfl rfl (one_of HT_.out (by kernel_rfl)) (by decide) (fun K hK => ?_)
         refine goes_ Tryd.func11 (by kernel_rfl) rfl #[.slice A1 l1.length c1, .int .i64 x10_2] (by rfl) rfl rfl (by (try simp only [List.map_toArray, List.map_cons, List.map_nil]); first | done | rfl | (simp only [List.length_drop, List.length_take]; rfl)) ?_
         with_reducible refine (walkmilllaw05_byteOf.calls _ _ l1 x10_2 t126 _ ?side1 ?side2 A28.out).mono ?_
         (case side1 => repeat (first | exact (Kd.C_below HR1.out HB.out) | (with_reducible refine Kd.C_alloc ?_ _) | (with_reducible refine Kd.C_drewN ?_ _) | (with_reducible refine Kd.C_drew ?_)))
         (case side2 => exact HC1.out)
         rintro e w' ⟨rfl, ⟨nd, rfl⟩⟩
         refine ⟨_, rfl, ?_⟩
         refine hK.out _ _ ⟨(blk_cell BK125.out 0).trans rfl, (blk_cell BK125.out 1).trans rfl⟩ (fun hHeld => ?_)
         clear hK K
         refine norm_ (a' := ?_) ?_ ?_
         rotate_left
         ·
          show Act.put _ (some 53) _ = _
          simp only [Act.put, List.setIfInBounds_toArray, List.set_cons_zero, List.set_cons_succ, i64_w, i32_w]
          rfl
         refine one_ (i := 4) (N := some 54) #[true, true, true, true, true, true, true, true, true, false, false] rfl rfl (one_of HT_.out (by kernel_rfl)) (by decide) (fun K hK => ?_)
         refine goes_ Tryd.func10 (by kernel_rfl) rfl #[.agg #[.int .i64 ((rd_T42 t102 x10_2).f0.f0), .int .i64 ((rd_T42 t102 x10_2).f0.f1)], .int .i64 t126] (by rfl) rfl rfl (by (try simp only [List.map_toArray, List.map_cons, List.map_nil]); first | done | rfl | (simp only [List.length_drop, List.length_take]; rfl)) ?_
         with_reducible refine (walkmilllaw05_inside.calls ((rd_T42 t102 x10_2).f0.f0) ((rd_T42 t102 x10_2).f0.f1) t126 t127 _ A29.out).mono ?_
         rintro e w42 ⟨rfl, hb⟩
         refine ⟨_, rfl, ?_⟩
         have n0_ := Aside0.mk (Kd.R_below (by (with_reducible repeat (first | apply Kd.R_alloc | apply Kd.R_drewN | apply Kd.R_drew)); exact HO_8.out) hb)
         have n1_ := Aside0.mk (Kd.R_below (by (with_reducible repeat (first | apply Kd.R_alloc | apply Kd.R_drewN | apply Kd.R_drew)); exact HO_111000.out) hb)
         have n2_ := Aside0.mk (Kd.R_below (by (with_reducible repeat (first | apply Kd.R_alloc | apply Kd.R_drewN | apply Kd.R_drew)); exact HO_111001.out) hb)
         have n3_ := Aside0.mk (blk_below (g := gb101) (o := .cells #[.slice A0_0 l0_0.length c0_0, .int .u8 a0_1, .int .u8 a0_2, .int .u8 a0_3, .int .u8 a0_4, .int .u8 a0_5, .slice A0_6 l0_6.length c0_6] 26 (0, 0)) (by (with_reducible repeat (first | refine blk_drewN ?_ _ | refine blk_drew ?_ | refine blk_alloc ?_ _)); exact BK101.out) hb)
         have n4_ := Aside0.mk (blk_below (g := gb110) (o := .cells #[.slice (some ad124) t102.length co12, .slice Ao15 t105.length co15, .int .i64 t108, .int .i64 t109] 32 (0, 0)) (by (with_reducible repeat (first | refine blk_drewN ?_ _ | refine blk_drew ?_ | refine blk_alloc ?_ _)); exact BK110.out) hb)
         have n5_ := Aside0.mk (blk_below (g := gb125) (o := .cells #[.int .i64 ((rd_T42 t102 x10_2).f0.f0), .int .i64 ((rd_T42 t102 x10_2).f0.f1)] 40 (0, 0)) (by (with_reducible repeat (first | refine blk_drewN ?_ _ | refine blk_drew ?_ | refine blk_alloc ?_ _)); exact BK125.out) hb)
         have n6_ := Aside0.mk (below_step (by repeat (first | (with_reducible first | exact HB.out | apply below_alloc | apply pw_below_drewN | apply below_drew1 | refine below_set ?_ GE101.out | refine below_set ?_ GE110.out | refine below_set ?_ GE125.out) | exact HB.out)) hb)
         clear HO_8
         clear HO_111000
         clear HO_111001
         clear BK101
         clear BK110
         clear BK125
         clear HB
         have HO_8 := n0_
         have HO_111000 := n1_
         have HO_111001 := n2_
         have BK101 := n3_
         have BK110 := n4_
         have BK125 := n5_
         have HB := n6_
         clear n0_ n1_ n2_ n3_ n4_ n5_ n6_
         (try clear hb)
         (try clear hb2)
         (try clear hk)
         (try clear hi)
         refine hK.out _ _ ⟨(blk_cell BK125.out 0).trans rfl, (blk_cell BK125.out 1).trans rfl⟩ (fun hHeld => ?_)
         clear hK K
         refine norm_ (a' := ?_) ?_ ?_
         rotate_left
         ·
          show Act.put _ (some 54) _ = _
          simp only [Act.put, List.setIfInBounds_toArray, List.set_cons_zero, List.set_cons_succ, i64_w, i32_w]
          rfl
         refine pure_ (i := 9) (N := some 12) (v := ?_) (a' := ?_) #[true, true, true, true, true, true, true, true, true, true, false] rfl rfl (any_of HT_.out (by kernel_rfl)) (fun _ _ _ h => h) (Or.inl ⟨by rfl, ?_⟩) ?_ ?_
         rotate_left
         ·
          intro w'
          go_simp
          with_reducible rfl
         rotate_left
         ·
          simp only [Act.put, List.setIfInBounds_toArray, List.set_cons_zero, List.set_cons_succ, i64_w, i32_w]
          rfl
         refine pure_ (i := 10) (N := some 13) (v := ?_) (a' := ?_) #[true, true, true, true, true, true, true, true, true, true, true] rfl rfl (any_of HT_.out (by kernel_rfl)) (fun _ _ _ h => h) (Or.inl ⟨by rfl, ?_⟩) ?_ ?_
         rotate_left
         ·
          intro w'
          go_simp
          with_reducible rfl
         rotate_left
         ·
          simp only [Act.put, List.setIfInBounds_toArray, List.set_cons_zero, List.set_cons_succ, i64_w, i32_w]
          rfl
         refine done_ (done_of HT_.out (by kernel_rfl)) ?_
         have hcz43_0 : w42.cell? ⟨gb110, 0, none⟩ = some (.slice (some ad124) t102.length co12) := (blk_cell BK110.out 0).trans rfl
         have hcz43_1 : w42.cell? ⟨gb110, 1, none⟩ = some (.slice Ao15 t105.length co15) := (blk_cell BK110.out 1).trans rfl
         have hcz43_2 : w42.cell? ⟨gb110, 2, none⟩ = some (.int .i64 t108) := (blk_cell BK110.out 2).trans rfl
         have hcz43_3 : w42.cell? ⟨gb110, 3, none⟩ = some (.int .i64 t109) := (blk_cell BK110.out 3).trans rfl
         have hfz43_0 := blk_frozen BK110.out 0
         have hfz43_1 := blk_frozen BK110.out 1
         have hfz43_2 := blk_frozen BK110.out 2
         have hfz43_3 := blk_frozen BK110.out 3
         go_upto_region 12 with (first | ((with_reducible refine gate_callee (f := 9) rfl ?_); refine goesL_ (some 61) rfl rfl Tryd.func9 (by kernel_rfl) rfl #[.agg #[.slice (some ad124) t102.length co12, .slice Ao15 t105.length co15, .int .i64 t108, .int .i64 t109]] rfl (by (try simp only [List.map_toArray, List.map_cons, List.map_nil]); first | done | rfl | (simp only [List.length_drop, List.length_take]; rfl)) ?_; (with_reducible refine (walkmilllaw05_own.calls _ _ t102 _ _ t105 t108 t109 t128 t131 t134 t135 _ ?side1 ?side2 ?side3 ?side4 A30.out).mono ?_); (case side1 => repeat (first | exact (Kd.R_reads' HO_111000.out).2.2 | (with_reducible refine Kd.C_alloc ?_ _) | (with_reducible refine Kd.C_drewN ?_ _) | (with_reducible refine Kd.C_drew ?_))); (case side2 => exact (Kd.R_reads' HO_111000.out).2.1); (case side3 => repeat (first | exact (Kd.R_reads' HO_111001.out).2.2 | (with_reducible refine Kd.C_alloc ?_ _) | (with_reducible refine Kd.C_drewN ?_ _) | (with_reducible refine Kd.C_drew ?_))); (case side4 => exact (Kd.R_reads' HO_111001.out).2.1); rintro e w44 ⟨v129, v132, rfl, ho0, ho1, hb⟩; refine ⟨_, rfl, ?_⟩; have n0_ := Aside0.mk (Kd.R_below (by (with_reducible repeat (first | apply Kd.R_alloc | apply Kd.R_drewN | apply Kd.R_drew)); exact HO_8.out) hb); have n1_ := Aside0.mk (Kd.R_elder' (by (with_reducible repeat (first | apply Kd.R_alloc | apply Kd.R_drewN | apply Kd.R_drew)); exact HO_111000.out) (Kd.R_base ho0) hb); have n2_ := Aside0.mk (Kd.R_elder' (by (with_reducible repeat (first | apply Kd.R_alloc | apply Kd.R_drewN | apply Kd.R_drew)); exact HO_111001.out) (Kd.R_base ho1) hb); have n3_ := Aside0.mk (Kd.R_lower (Kd.R_new' ho0 (Kd.R_lt (by (with_reducible repeat (first | apply Kd.R_alloc | apply Kd.R_drewN | apply Kd.R_drew)); exact HO_111000.out))) (below_size (by repeat (first | (with_reducible first | exact HB.out | apply below_alloc | apply pw_below_drewN | apply below_drew1 | refine below_set ?_ GE101.out | refine below_set ?_ GE110.out | refine below_set ?_ GE125.out) | exact HB.out)))); have n4_ := Aside0.mk (Kd.R_lower (Kd.R_new' ho1 (Kd.R_lt (by (with_reducible repeat (first | apply Kd.R_alloc | apply Kd.R_drewN | apply Kd.R_drew)); exact HO_111001.out))) (below_size (by repeat (first | (with_reducible first | exact HB.out | apply below_alloc | apply pw_below_drewN | apply below_drew1 | refine below_set ?_ GE101.out | refine below_set ?_ GE110.out | refine below_set ?_ GE125.out) | exact HB.out)))); have n5_ := Aside0.mk (blk_below (g := gb101) (o := .cells #[.slice A0_0 l0_0.length c0_0, .int .u8 a0_1, .int .u8 a0_2, .int .u8 a0_3, .int .u8 a0_4, .int .u8 a0_5, .slice A0_6 l0_6.length c0_6] 26 (0, 0)) (by (with_reducible repeat (first | refine blk_drewN ?_ _ | refine blk_drew ?_ | refine blk_alloc ?_ _)); exact BK101.out) hb); have n6_ := Aside0.mk (blk_below (g := gb110) (o := .cells #[.slice (some ad124) t102.length co12, .slice Ao15 t105.length co15, .int .i64 t108, .int .i64 t109] 32 (0, 0)) (by (with_reducible repeat (first | refine blk_drewN ?_ _ | refine blk_drew ?_ | refine blk_alloc ?_ _)); exact BK110.out) hb); have n7_ := Aside0.mk (blk_below (g := gb125) (o := .cells #[.int .i64 ((rd_T42 t102 x10_2).f0.f0), .int .i64 ((rd_T42 t102 x10_2).f0.f1)] 40 (0, 0)) (by (with_reducible repeat (first | refine blk_drewN ?_ _ | refine blk_drew ?_ | refine blk_alloc ?_ _)); exact BK125.out) hb); have n8_ := Aside0.mk (below_step (by repeat (first | (with_reducible first | exact HB.out | apply below_alloc | apply pw_below_drewN | apply below_drew1 | refine below_set ?_ GE101.out | refine below_set ?_ GE110.out | refine below_set ?_ GE125.out) | exact HB.out)) hb); clear HO_8; clear HO_111000; clear HO_111001; clear BK101; clear BK110; clear BK125; clear HB; have HO_8 := n0_; have HO_111000 := n1_; have HO_111001 := n2_; have HO130 := n3_; have HO133 := n4_; have BK101 := n5_; have BK110 := n6_; have BK125 := n7_; have HB := n8_; clear n0_ n1_ n2_ n3_ n4_ n5_ n6_ n7_ n8_; (try clear hb); (try clear hb2); (try clear hk); (try clear hi); (try clear ho0); (try clear ho1); obtain ⟨Ao45, co45, eo45⟩ := Kd.R_slice HO130.out; subst eo45; obtain ⟨Ao46, co46, eo46⟩ := Kd.R_slice HO133.out; subst eo46) | ((with_reducible refine gate_callee (f := 12) rfl ?_); refine goesL_ (some 64) rfl rfl Tryd.func12 (by kernel_rfl) rfl #[.agg #[.slice Ao45 t128.length co45, .slice Ao46 t131.length co46, .int .i64 t134, .int .i64 t135], .int .i64 x10_2, .int .i64 (wrap64 (1 + (Int.tmod (wrap64 (a2)) 1200)))] rfl (by (try simp only [List.map_toArray, List.map_cons, List.map_nil]); first | done | rfl | (simp only [List.length_drop, List.length_take]; rfl)) ?_; (with_reducible refine (tenter_Stretched.calls _ _ t128 _ _ t131 t134 t135 x10_2 (wrap64 (1 + (Int.tmod (wrap64 (a2)) 1200))) t136 t137 t138 _ ?side1 ?side2 ?side3 ?side4 A31.out).mono ?_); (case side1 => repeat (first | exact (Kd.R_reads' HO130.out).2.2 | (with_reducible refine Kd.C_alloc ?_ _) | (with_reducible refine Kd.C_drewN ?_ _) | (with_reducible refine Kd.C_drew ?_))); (case side2 => exact (Kd.R_reads' HO130.out).2.1); (case side3 => repeat (first | exact (Kd.R_reads' HO133.out).2.2 | (with_reducible refine Kd.C_alloc ?_ _) | (with_reducible refine Kd.C_drewN ?_ _) | (with_reducible refine Kd.C_drew ?_))); (case side4 => exact (Kd.R_reads' HO133.out).2.1); rintro e w47 ⟨rfl, hb⟩; refine ⟨_, rfl, ?_⟩; have n0_ := Aside0.mk (Kd.R_below (by (with_reducible repeat (first | apply Kd.R_alloc | apply Kd.R_drewN | apply Kd.R_drew)); exact HO_8.out) hb); have n1_ := Aside0.mk (Kd.R_below (by (with_reducible repeat (first | apply Kd.R_alloc | apply Kd.R_drewN | apply Kd.R_drew)); exact HO_111000.out) hb); have n2_ := Aside0.mk (Kd.R_below (by (with_reducible repeat (first | apply Kd.R_alloc | apply Kd.R_drewN | apply Kd.R_drew)); exact HO_111001.out) hb); have n3_ := Aside0.mk (Kd.R_below (by (with_reducible repeat (first | apply Kd.R_alloc | apply Kd.R_drewN | apply Kd.R_drew)); exact HO130.out) hb); have n4_ := Aside0.mk (Kd.R_below (by (with_reducible repeat (first | apply Kd.R_alloc | apply Kd.R_drewN | apply Kd.R_drew)); exact HO133.out) hb); have n5_ := Aside0.mk (blk_below (g := gb101) (o := .cells #[.slice A0_0 l0_0.length c0_0, .int .u8 a0_1, .int .u8 a0_2, .int .u8 a0_3, .int .u8 a0_4, .int .u8 a0_5, .slice A0_6 l0_6.length c0_6] 26 (0, 0)) (by (with_reducible repeat (first | refine blk_drewN ?_ _ | refine blk_drew ?_ | refine blk_alloc ?_ _)); exact BK101.out) hb); have n6_ := Aside0.mk (blk_below (g := gb110) (o := .cells #[.slice (some ad124) t102.length co12, .slice Ao15 t105.length co15, .int .i64 t108, .int .i64 t109] 32 (0, 0)) (by (with_reducible repeat (first | refine blk_drewN ?_ _ | refine blk_drew ?_ | refine blk_alloc ?_ _)); exact BK110.out) hb); have n7_ := Aside0.mk (blk_below (g := gb125) (o := .cells #[.int .i64 ((rd_T42 t102 x10_2).f0.f0), .int .i64 ((rd_T42 t102 x10_2).f0.f1)] 40 (0, 0)) (by (with_reducible repeat (first | refine blk_drewN ?_ _ | refine blk_drew ?_ | refine blk_alloc ?_ _)); exact BK125.out) hb); have n8_ := Aside0.mk (below_step (by repeat (first | (with_reducible first | exact HB.out | apply below_alloc | apply pw_below_drewN | apply below_drew1 | refine below_set ?_ GE101.out | refine below_set ?_ GE110.out | refine below_set ?_ GE125.out) | exact HB.out)) hb); clear HO_8; clear HO_111000; clear HO_111001; clear HO130; clear HO133; clear BK101; clear BK110; clear BK125; clear HB; have HO_8 := n0_; have HO_111000 := n1_; have HO_111001 := n2_; have HO130 := n3_; have HO133 := n4_; have BK101 := n5_; have BK110 := n6_; have BK125 := n7_; have HB := n8_; clear n0_ n1_ n2_ n3_ n4_ n5_ n6_ n7_ n8_; (try clear hb); (try clear hb2); (try clear hk); (try clear hi); have hcz48_0 : w47.cell? ⟨gb110, 0, none⟩ = some (.slice (some ad124) t102.length co12) := (blk_cell BK110.out 0).trans rfl; have hcz48_1 : w47.cell? ⟨gb110, 1, none⟩ = some (.slice Ao15 t105.length co15) := (blk_cell BK110.out 1).trans rfl; have hcz48_2 : w47.cell? ⟨gb110, 2, none⟩ = some (.int .i64 t108) := (blk_cell BK110.out 2).trans rfl; have hcz48_3 : w47.cell? ⟨gb110, 3, none⟩ = some (.int .i64 t109) := (blk_cell BK110.out 3).trans rfl; have hfz48_0 := blk_frozen BK110.out 0; have hfz48_1 := blk_frozen BK110.out 1; have hfz48_2 := blk_frozen BK110.out 2; have hfz48_3 := blk_frozen BK110.out 3))
         (try simp only [Act.put, List.setIfInBounds_toArray, List.set_cons_zero, List.set_cons_succ])
         obtain ⟨isv, hisv⟩ : ∃ b, decide ((wrap64 (t127 * (wrap64 (1000 + t109)))) < (wrap64 ((wrap64 (1 + (Int.tmod (wrap64 (a2)) 1200))) * 1000))) = b := ⟨_, rfl⟩
         simp only [hisv]
         go_cut [98] (fun v98 wc => ∃ (kq : Nat) (x98_31 : Bool), v98 = .bool x98_31 ∧ Aside0 (walkmilllaw05_TenterNever.j2 kq l1 a2 t119 x10_2 t127 x98_31 t102 t105 t108 t109 ((rd_T42 t102 x10_2).f0.f0) ((rd_T42 t102 x10_2).f0.f1) = some r) ∧ Aside0 (kq ≤ k2) ∧ Aside0 (Kd.R k40 40 wc w.heap.size (fun k_ => k_ ≠ gb125) (.slice Ao33 t119.length co33) t119) ∧ Aside0 (Kd.R k42 42 wc w.heap.size (fun _ => True) (.slice (some ad124) t102.length co12) t102) ∧ Aside0 (Kd.R (Kd.int .i64) 3 wc w.heap.size (fun _ => True) (.slice Ao15 t105.length co15) t105) ∧ Aside0 (wc.heap[gb101]? = some (.cells #[(.slice A0_0 l0_0.length c0_0), .int .u8 a0_1, .int .u8 a0_2, .int .u8 a0_3, .int .u8 a0_4, .int .u8 a0_5, (.slice A0_6 l0_6.length c0_6)] 26 (0, 0))) ∧ Aside0 (wc.heap[gb110]? = some (.cells #[(.slice (some ad124) t102.length co12), (.slice Ao15 t105.length co15), .int .i64 t108, .int .i64 t109] 32 (0, 0))) ∧ Aside0 (wc.heap[gb125]? = some (.cells #[.int .i64 ((rd_T42 t102 x10_2).f0.f0), .int .i64 ((rd_T42 t102 x10_2).f0.f1)] 40 (0, 0))) ∧ Aside0 (Below w.heap.size w wc))
         case first =>
          have H := HC32.out
          clear HC32
          by_cases c49 : t138 = 0
          ·
           rw [if_pos c49] at H
           have c49b0 : (t138 == 0) = true := beq_iff_eq.mpr c49
           have c49b1 : (t138 != 0) = false := bne_eq_false_iff_eq.mpr c49
           clear c49
           (first | rw [c49b0] | (simp only [i64_w, i32_w]; rw [c49b0]) | skip)
           by_cases c50 : t136 = true
           ·
            subst c50
            have H1 : (if ((wrap64 ((wrap64 (1 + (Int.tmod (wrap64 (a2)) 1200))) * 1000)) > (wrap64 (t127 * (wrap64 (1000 + t109))))) then (if (wrap64 ((wrap64 (1 + (Int.tmod (wrap64 (a2)) 1200))) * 1000)) > (wrap64 (t127 * (wrap64 (1000 + t109)))) then (if t137 = true then (walkmilllaw05_TenterNever.j2 k2 l1 a2 t119 x10_2 t127 (!t137) t102 t105 t108 t109 ((rd_T42 t102 x10_2).f0.f0) ((rd_T42 t102 x10_2).f0.f1)) else (walkmilllaw05_TenterNever.j2 k2 l1 a2 t119 x10_2 t127 true t102 t105 t108 t109 ((rd_T42 t102 x10_2).f0.f0) ((rd_T42 t102 x10_2).f0.f1))) else (walkmilllaw05_TenterNever.j2 k2 l1 a2 t119 x10_2 t127 (!t137) t102 t105 t108 t109 ((rd_T42 t102 x10_2).f0.f0) ((rd_T42 t102 x10_2).f0.f1))) else (walkmilllaw05_TenterNever.j2 k2 l1 a2 t119 x10_2 t127 true t102 t105 t108 t109 ((rd_T42 t102 x10_2).f0.f0) ((rd_T42 t102 x10_2).f0.f1))) = some r := by rw [if_pos rfl] at H; exact H
            clear H
            have H := H1
            clear H1
            by_cases c51 : ((wrap64 ((wrap64 (1 + (Int.tmod (wrap64 (a2)) 1200))) * 1000)) > (wrap64 (t127 * (wrap64 (1000 + t109)))))
            ·
             rw [if_pos c51] at H
             have c51b0 : decide ((wrap64 (t127 * (wrap64 (1000 + t109)))) < (wrap64 ((wrap64 (1 + (Int.tmod (wrap64 (a2)) 1200))) * 1000))) = true := decide_eq_true c51
             obtain rfl : isv = true := hisv.symm.trans c51b0
             clear c51
             by_cases c52 : (wrap64 ((wrap64 (1 + (Int.tmod (wrap64 (a2)) 1200))) * 1000)) > (wrap64 (t127 * (wrap64 (1000 + t109))))
             ·
              rw [if_pos c52] at H
              have c52b0 : decide ((wrap64 (t127 * (wrap64 (1000 + t109)))) < (wrap64 ((wrap64 (1 + (Int.tmod (wrap64 (a2)) 1200))) * 1000))) = true := decide_eq_true c52
              clear c52
              by_cases c53 : t137 = true
              ·
               subst c53
               have H1 : (walkmilllaw05_TenterNever.j2 k2 l1 a2 t119 x10_2 t127 (!true) t102 t105 t108 t109 ((rd_T42 t102 x10_2).f0.f0) ((rd_T42 t102 x10_2).f0.f1)) = some r := by rw [if_pos rfl] at H; exact H
               clear H
               have H := H1
               clear H1
               have H' := Aside0.mk H
               clear H
               go_wp2
               go_meet
               case rel => exact ⟨_, (!true), (by first | rfl | (simp; done) | (simp [*]; done)), H', ⟨by have := HJ6.out; have := HK2.out; first | omega | exact Nat.le_refl _⟩, ⟨by (with_reducible repeat (first | apply Kd.R_alloc | apply Kd.R_drewN | apply Kd.R_drew)); exact HO_8.out⟩, ⟨by (with_reducible repeat (first | apply Kd.R_alloc | apply Kd.R_drewN | apply Kd.R_drew)); exact Kd.R_mono HO_111000.out (fun _ hk => trivial)⟩, ⟨by (with_reducible repeat (first | apply Kd.R_alloc | apply Kd.R_drewN | apply Kd.R_drew)); exact Kd.R_mono HO_111001.out (fun _ hk => trivial)⟩, ⟨by (with_reducible repeat (first | refine blk_drewN ?_ _ | refine blk_drew ?_ | refine blk_alloc ?_ _)); exact BK101.out⟩, ⟨by (with_reducible repeat (first | refine blk_drewN ?_ _ | refine blk_drew ?_ | refine blk_alloc ?_ _)); exact BK110.out⟩, ⟨by (with_reducible repeat (first | refine blk_drewN ?_ _ | refine blk_drew ?_ | refine blk_alloc ?_ _)); exact BK125.out⟩, ⟨by repeat (first | (with_reducible first | exact HB.out | apply below_alloc | apply pw_below_drewN | apply below_drew1 | refine below_set ?_ GE101.out | refine below_set ?_ GE110.out | refine below_set ?_ GE125.out) | exact HB.out)⟩⟩
              ·
               replace c53 := Bool.eq_false_iff.mpr c53
               subst c53
               have H1 : (walkmilllaw05_TenterNever.j2 k2 l1 a2 t119 x10_2 t127 true t102 t105 t108 t109 ((rd_T42 t102 x10_2).f0.f0) ((rd_T42 t102 x10_2).f0.f1)) = some r := by rw [if_neg (show ¬ (false = true) by decide)] at H; exact H
               clear H
               have H := H1
               clear H1
               exact (walkmilllaw05_TenterNever.dead_j2 _ _ _ _ _ _ _ _ _ _ _ _ _ H HRT.out).elim
             ·
              exact absurd (of_decide_eq_true hisv) c52
            ·
             rw [if_neg c51] at H
             have c51b0 : decide ((wrap64 (t127 * (wrap64 (1000 + t109)))) < (wrap64 ((wrap64 (1 + (Int.tmod (wrap64 (a2)) 1200))) * 1000))) = false := decide_eq_false c51
             obtain rfl : isv = false := hisv.symm.trans c51b0
             clear c51
             exact (walkmilllaw05_TenterNever.dead_j2 _ _ _ _ _ _ _ _ _ _ _ _ _ H HRT.out).elim
           ·
            replace c50 := Bool.eq_false_iff.mpr c50
            subst c50
            have H1 : (if (wrap64 ((wrap64 (1 + (Int.tmod (wrap64 (a2)) 1200))) * 1000)) > (wrap64 (t127 * (wrap64 (1000 + t109)))) then (if t137 = true then (walkmilllaw05_TenterNever.j2 k2 l1 a2 t119 x10_2 t127 false t102 t105 t108 t109 ((rd_T42 t102 x10_2).f0.f0) ((rd_T42 t102 x10_2).f0.f1)) else (walkmilllaw05_TenterNever.j2 k2 l1 a2 t119 x10_2 t127 true t102 t105 t108 t109 ((rd_T42 t102 x10_2).f0.f0) ((rd_T42 t102 x10_2).f0.f1))) else (walkmilllaw05_TenterNever.j2 k2 l1 a2 t119 x10_2 t127 false t102 t105 t108 t109 ((rd_T42 t102 x10_2).f0.f0) ((rd_T42 t102 x10_2).f0.f1))) = some r := by rw [if_neg (show ¬ (false = true) by decide)] at H; exact H
            clear H
            have H := H1
            clear H1
            by_cases c54 : (wrap64 ((wrap64 (1 + (Int.tmod (wrap64 (a2)) 1200))) * 1000)) > (wrap64 (t127 * (wrap64 (1000 + t109))))
            ·
             rw [if_pos c54] at H
             have c54b0 : decide ((wrap64 (t127 * (wrap64 (1000 + t109)))) < (wrap64 ((wrap64 (1 + (Int.tmod (wrap64 (a2)) 1200))) * 1000))) = true := decide_eq_true c54
             obtain rfl : isv = true := hisv.symm.trans c54b0
             clear c54
             by_cases c55 : t137 = true
             ·
              subst c55
              have H1 : (walkmilllaw05_TenterNever.j2 k2 l1 a2 t119 x10_2 t127 false t102 t105 t108 t109 ((rd_T42 t102 x10_2).f0.f0) ((rd_T42 t102 x10_2).f0.f1)) = some r := by rw [if_pos rfl] at H; exact H
              clear H
              have H := H1
              clear H1
              have H' := Aside0.mk H
              clear H
              go_wp2
              go_meet
              case rel => exact ⟨_, (false), (by first | rfl | (simp; done) | (simp [*]; done)), H', ⟨by have := HJ6.out; have := HK2.out; first | omega | exact Nat.le_refl _⟩, ⟨by (with_reducible repeat (first | apply Kd.R_alloc | apply Kd.R_drewN | apply Kd.R_drew)); exact HO_8.out⟩, ⟨by (with_reducible repeat (first | apply Kd.R_alloc | apply Kd.R_drewN | apply Kd.R_drew)); exact Kd.R_mono HO_111000.out (fun _ hk => trivial)⟩, ⟨by (with_reducible repeat (first | apply Kd.R_alloc | apply Kd.R_drewN | apply Kd.R_drew)); exact Kd.R_mono HO_111001.out (fun _ hk => trivial)⟩, ⟨by (with_reducible repeat (first | refine blk_drewN ?_ _ | refine blk_drew ?_ | refine blk_alloc ?_ _)); exact BK101.out⟩, ⟨by (with_reducible repeat (first | refine blk_drewN ?_ _ | refine blk_drew ?_ | refine blk_alloc ?_ _)); exact BK110.out⟩, ⟨by (with_reducible repeat (first | refine blk_drewN ?_ _ | refine blk_drew ?_ | refine blk_alloc ?_ _)); exact BK125.out⟩, ⟨by repeat (first | (with_reducible first | exact HB.out | apply below_alloc | apply pw_below_drewN | apply below_drew1 | refine below_set ?_ GE101.out | refine below_set ?_ GE110.out | refine below_set ?_ GE125.out) | exact HB.out)⟩⟩
             ·
              replace c55 := Bool.eq_false_iff.mpr c55
              subst c55
              have H1 : (walkmilllaw05_TenterNever.j2 k2 l1 a2 t119 x10_2 t127 true t102 t105 t108 t109 ((rd_T42 t102 x10_2).f0.f0) ((rd_T42 t102 x10_2).f0.f1)) = some r := by rw [if_neg (show ¬ (false = true) by decide)] at H; exact H
              clear H
              have H := H1
              clear H1
              exact (walkmilllaw05_TenterNever.dead_j2 _ _ _ _ _ _ _ _ _ _ _ _ _ H HRT.out).elim
            ·
             rw [if_neg c54] at H
             have c54b0 : decide ((wrap64 (t127 * (wrap64 (1000 + t109)))) < (wrap64 ((wrap64 (1 + (Int.tmod (wrap64 (a2)) 1200))) * 1000))) = false := decide_eq_false c54
             obtain rfl : isv = false := hisv.symm.trans c54b0
             clear c54
             have H' := Aside0.mk H
             clear H
             go_wp2
             go_meet
             case rel => exact ⟨_, (false), (by first | rfl | (simp; done) | (simp [*]; done)), H', ⟨by have := HJ6.out; have := HK2.out; first | omega | exact Nat.le_refl _⟩, ⟨by (with_reducible repeat (first | apply Kd.R_alloc | apply Kd.R_drewN | apply Kd.R_drew)); exact HO_8.out⟩, ⟨by (with_reducible repeat (first | apply Kd.R_alloc | apply Kd.R_drewN | apply Kd.R_drew)); exact Kd.R_mono HO_111000.out (fun _ hk => trivial)⟩, ⟨by (with_reducible repeat (first | apply Kd.R_alloc | apply Kd.R_drewN | apply Kd.R_drew)); exact Kd.R_mono HO_111001.out (fun _ hk => trivial)⟩, ⟨by (with_reducible repeat (first | refine blk_drewN ?_ _ | refine blk_drew ?_ | refine blk_alloc ?_ _)); exact BK101.out⟩, ⟨by (with_reducible repeat (first | refine blk_drewN ?_ _ | refine blk_drew ?_ | refine blk_alloc ?_ _)); exact BK110.out⟩, ⟨by (with_reducible repeat (first | refine blk_drewN ?_ _ | refine blk_drew ?_ | refine blk_alloc ?_ _)); exact BK125.out⟩, ⟨by repeat (first | (with_reducible first | exact HB.out | apply below_alloc | apply pw_below_drewN | apply below_drew1 | refine below_set ?_ GE101.out | refine below_set ?_ GE110.out | refine below_set ?_ GE125.out) | exact HB.out)⟩⟩
          ·
           rw [if_neg c49] at H
           have c49b0 : (t138 == 0) = false := beq_eq_false_iff_ne.mpr c49
           have c49b1 : (t138 != 0) = true := bne_iff_ne.mpr c49
           (first | rw [c49b0] | (simp only [i64_w, i32_w]; rw [c49b0]) | skip)
           exact (walkmilllaw05_TenterNever.dead_j2 _ _ _ _ _ _ _ _ _ _ _ _ _ H HRT.out).elim
         case rest =>
          clear HC32
          try clear c1
          try clear p1
          try clear q1
          try clear hx1
          try clear c2
          try clear p2
          try clear c3
          try clear c4
          try clear c5
          try clear p6
          try clear c7
          try clear c8
          try clear c9
          try clear c10
          try clear c11
          try clear c12
          try clear p12
          try clear q12
          try clear hx12
          try clear c13
          try clear c20
          try clear c20b0
          try clear c20b1
          try clear c22
          try clear c24
          try clear c25
          try clear c25b0
          try clear c26
          try clear c26b0
          try clear c27
          try clear c27b0
          try clear c34
          try clear c37
          try clear c38
          try clear c49
          try clear c49b0
          try clear c49b1
          try clear c50
          try clear c51
          try clear c51b0
          try clear c52
          try clear c52b0
          try clear c53
          try clear c54
          try clear c54b0
          try clear c55
          try clear hcz14_0
          try clear hcz14_1
          try clear hcz14_2
          try clear hcz14_3
          try clear hcz23_0
          try clear hcz23_1
          try clear hcz23_2
          try clear hcz23_3
          try clear hcz35_0
          try clear hcz35_1
          try clear hcz35_2
          try clear hcz35_3
          try clear hcz39_0
          try clear hcz39_1
          try clear hcz43_0
          try clear hcz43_1
          try clear hcz43_2
          try clear hcz43_3
          try clear hcz48_0
          try clear hcz48_1
          try clear hcz48_2
          try clear hcz48_3
          try clear hcz9_0
          try clear hcz9_1
          try clear hcz9_2
          try clear hcz9_3
          try clear hcz9_4
          try clear hcz9_5
          try clear hcz9_6
          try clear hfz14_0
          try clear hfz14_1
          try clear hfz14_2
          try clear hfz14_3
          try clear hfz23_0
          try clear hfz23_1
          try clear hfz23_2
          try clear hfz23_3
          try clear hfz35_0
          try clear hfz35_1
          try clear hfz35_2
          try clear hfz35_3
          try clear hfz39_0
          try clear hfz39_1
          try clear hfz43_0
          try clear hfz43_1
          try clear hfz43_2
          try clear hfz43_3
          try clear hfz48_0
          try clear hfz48_1
          try clear hfz48_2
          try clear hfz48_3
          try clear hfz9_0
          try clear hfz9_1
          try clear hfz9_2
          try clear hfz9_3
          try clear hfz9_4
          try clear hfz9_5
          try clear hfz9_6
          try clear hx124_0
          try clear hx124_1
          try clear hx124_2
          try clear hx124_3
          try clear p124
          try clear p2
          try clear q124
          obtain ⟨kq, x98_31, rfl, HA, HJ31, HO_8, HO_111000, HO_111001, BK101, BK110, BK125, HB⟩ := hcut
          cases kq with
          | zero => exact absurd HA.out (by simp [walkmilllaw05_TenterNever.j2])
          | succ kj31 =>
           have H := HA.out
           clear HA
           simp only [walkmilllaw05_TenterNever.j2] at H
           by_cases c56 : x98_31 = true
           ·
            subst c56
            have H1 : (some false) = some r := by rw [if_pos rfl] at H; exact H
            clear H
            have H := H1
            clear H1
            exact absurd ((Option.some.inj H).trans HRT.out) (by simp)
           ·
            replace c56 := Bool.eq_false_iff.mpr c56
            subst c56
            have H1 : (if 0 ≤ x10_2 then (if x10_2 < (t119.length : Int) then (if ((rd_T40 t119 x10_2).f0) > ((rd_T40 t119 x10_2).f1) then ((walkmilllaw05_span.f 1 0).bind fun bt142 => (if (!(((rd_T40 t119 x10_2).f0) == bt142.1) || (!(((rd_T40 t119 x10_2).f1) == bt142.2))) = true then (some false) else ((walkmilllaw05_pulled.f t102 t105 t108 t109 ((rd_T42 t102 x10_2).f0.f0) ((rd_T42 t102 x10_2).f0.f1)).bind fun t144 => (if t144 = true then (some false) else (walkmilllaw05_TenterNever.l0 kj31 l1 a2 t119 (wrap64 (x10_2 + 1)) t102 t105 t108 t109))))) else (walkmilllaw05_TenterNever.l1 kj31 l1 a2 t119 x10_2 t127 0 t102 t105 t108 t109 ((rd_T42 t102 x10_2).f0.f0) ((rd_T42 t102 x10_2).f0.f1))) else (none)) else (none)) = some r := by rw [if_neg (show ¬ (false = true) by decide)] at H; exact H
            clear H
            have H := H1
            clear H1
            by_cases c57 : 0 ≤ x10_2
            ·
             rw [if_pos c57] at H
             have c57b0 : decide (0 ≤ x10_2) = true := decide_eq_true c57
             clear c57
             by_cases c58 : x10_2 < (t119.length : Int)
             ·
              rw [if_pos c58] at H
              have c58b0 : decide (x10_2 < (t119.length : Int)) = true := decide_eq_true c58
              clear c58
              by_cases c59 : ((rd_T40 t119 x10_2).f0) > ((rd_T40 t119 x10_2).f1)
              ·
               rw [if_pos c59] at H
               have c59b0 : decide (((rd_T40 t119 x10_2).f1) < ((rd_T40 t119 x10_2).f0)) = true := decide_eq_true c59
               clear c59
               replace H := Option.bind_eq_some_iff.mp H
               obtain ⟨⟨t142, t143⟩, A600, H⟩ := H
               replace H : (if (!(((rd_T40 t119 x10_2).f0) == t142) || (!(((rd_T40 t119 x10_2).f1) == t143))) = true then (some false) else ((walkmilllaw05_pulled.f t102 t105 t108 t109 ((rd_T42 t102 x10_2).f0.f0) ((rd_T42 t102 x10_2).f0.f1)).bind fun t144 => (if t144 = true then (some false) else (walkmilllaw05_TenterNever.l0 kj31 l1 a2 t119 (wrap64 (x10_2 + 1)) t102 t105 t108 t109)))) = some r := H
               have A60 := Aside0.mk A600
               clear A600
               by_cases c61 : (!(((rd_T40 t119 x10_2).f0) == t142) || (!(((rd_T40 t119 x10_2).f1) == t143))) = true
               ·
                rw [if_pos c61] at H
                have c61b0 : (!(((rd_T40 t119 x10_2).f0) == t142) || (!(((rd_T40 t119 x10_2).f1) == t143))) = true := c61
                clear c61
                exact absurd ((Option.some.inj H).trans HRT.out) (by simp)
               ·
                rw [if_neg c61] at H
                have c61b0 : (!(((rd_T40 t119 x10_2).f0) == t142) || (!(((rd_T40 t119 x10_2).f1) == t143))) = false := by simpa using c61
                clear c61
                replace H := Option.bind_eq_some_iff.mp H
                obtain ⟨t144, A620, H⟩ := H
                replace H : (if t144 = true then (some false) else (walkmilllaw05_TenterNever.l0 kj31 l1 a2 t119 (wrap64 (x10_2 + 1)) t102 t105 t108 t109)) = some r := H
                have A62 := Aside0.mk A620
                clear A620
                by_cases c63 : t144 = true
                ·
                 subst c63
                 have H1 : (some false) = some r := by rw [if_pos rfl] at H; exact H
                 clear H
                 have H := H1
                 clear H1
                 exact absurd ((Option.some.inj H).trans HRT.out) (by simp)
                ·
                 replace c63 := Bool.eq_false_iff.mpr c63
                 subst c63
                 have H1 : (walkmilllaw05_TenterNever.l0 kj31 l1 a2 t119 (wrap64 (x10_2 + 1)) t102 t105 t108 t109) = some r := by rw [if_neg (show ¬ (false = true) by decide)] at H; exact H
                 clear H
                 have H := H1
                 clear H1
                 have H' := Aside0.mk H
                 clear H
                 try go_wp2
                 have n0_ := Aside0.mk (Kd.R_drew HO_8.out)
                 have n1_ := Aside0.mk (Kd.R_drew HO_111000.out)
                 have n2_ := Aside0.mk (Kd.R_drew HO_111001.out)
                 have n3_ := Aside0.mk (blk_drew BK101.out)
                 have n4_ := Aside0.mk (blk_drew BK110.out)
                 have n5_ := Aside0.mk (blk_drew BK125.out)
                 have n6_ := Aside0.mk (below_drew1 HB.out)
                 clear HO_8
                 clear HO_111000
                 clear HO_111001
                 clear BK101
                 clear BK110
                 clear BK125
                 clear HB
                 have HO_8 := n0_
                 have HO_111000 := n1_
                 have HO_111001 := n2_
                 have BK101 := n3_
                 have BK110 := n4_
                 have BK125 := n5_
                 have HB := n6_
                 clear n0_ n1_ n2_ n3_ n4_ n5_ n6_
                 have p139 : 0 ≤ (x10_2 : Int) := of_decide_eq_true (by first | (with_reducible assumption) | assumption)
                 have q139 : x10_2 < (t119.length : Int) := of_decide_eq_true (by first | (with_reducible assumption) | assumption)
                 obtain ⟨ad139, e139, hx139_0, hx139_1⟩ := at_T40 (Kd.R_reads' HO_8.out).2.2 x10_2 p139 q139
                 cases e139
                 replace p139 := eq_true p139
                 replace q139 := eq_true q139
                 have p140 : 0 ≤ (x10_2 : Int) := of_decide_eq_true (by first | (with_reducible assumption) | assumption)
                 have q140 : x10_2 < (t119.length : Int) := of_decide_eq_true (by first | (with_reducible assumption) | assumption)
                 obtain ⟨ad140, e140, hx140_0, hx140_1⟩ := at_T40 (Kd.R_reads' HO_8.out).2.2 x10_2 p140 q140
                 obtain rfl : ad139 = ad140 := (by injection e140)
                 replace p140 := eq_true p140
                 replace q140 := eq_true q140
                 refine start_ (n := 11) (S := fun w' => w'.cell? (ad139.add ((x10_2).toNat * 2)) = some (.int .i64 ((rd_T40 t119 x10_2).f0)) ∧ w'.cell? ⟨(ad139.add ((x10_2).toNat * 2)).block, (ad139.add ((x10_2).toNat * 2)).off + 1, none⟩ = some (.int .i64 ((rd_T40 t119 x10_2).f1)) ∧ w'.cell? (ad139.add ((x10_2).toNat * 2)) = some (.int .i64 ((rd_T40 t119 x10_2).f0)) ∧ w'.cell? ⟨(ad139.add ((x10_2).toNat * 2)).block, (ad139.add ((x10_2).toNat * 2)).off + 1, none⟩ = some (.int .i64 ((rd_T40 t119 x10_2).f1))) (ds := []) #[false, false, false, false, false, false, false, false, false, false, false] (by kernel_rfl) rfl rfl ⟨hx139_0, hx139_1, hx140_0, hx140_1⟩ (fun hHeld => ?_); refine with_tabW walkmilllaw05_TenterNever.tab14 walkmilllaw05_TenterNever.bits14 (fun HT_ HW_ => ?_)
                 generalize wc.drew = w64 at HO_8 HO_111000 HO_111001 BK101 BK110 BK125 HB hx139_0 hx139_1 hx140_0 hx140_1 hHeld ⊢
                 refine pure_ (i := 0) (N := some 99) (v := ?_) (a' := ?_) #[true, false, false, false, false, false, false, false, false, false, false] rfl rfl (any_of HT_.out (by kernel_rfl)) (fun _ _ _ h => h) (Or.inl ⟨by rfl, ?_⟩) ?_ ?_
                 rotate_left
                 ·
                  intro w'
                  go_simp
                  with_reducible rfl
                 rotate_left
                 ·
                  simp only [Act.put, List.setIfInBounds_toArray, List.set_cons_zero, List.set_cons_succ, i64_w, i32_w]
                  rfl
                 refine pure_ (i := 1) (N := some 100) (v := ?_) (a' := ?_) #[true, true, false, false, false, false, false, false, false, false, false] rfl rfl (any_of HT_.out (by kernel_rfl)) (fun _ _ _ h => h) (Or.inl ⟨by rfl, ?_⟩) ?_ ?_
                 rotate_left
                 ·
                  intro w'
                  go_simp
                  with_reducible rfl
                 rotate_left
                 ·
                  simp only [Act.put, List.setIfInBounds_toArray, List.set_cons_zero, List.set_cons_succ, i64_w, i32_w]
                  rfl
                 refine pure_ (i := 2) (N := some 101) (v := ?_) (a' := ?_) #[true, true, true, false, false, false, false, false, false, false, false] rfl rfl (any_of HT_.out (by kernel_rfl)) (fun _ _ _ h => h) (Or.inl ⟨by rfl, ?_⟩) ?_ ?_
                 rotate_left
                 ·
                  intro w'
                  go_simp
                  with_reducible rfl
                 rotate_left
                 ·
                  simp only [Act.put, List.setIfInBounds_toArray, List.set_cons_zero, List.set_cons_succ, i64_w, i32_w]
                  rfl
                 refine pure_ (i := 3) (N := some 102) (v := ?_) (a' := ?_) #[true, true, true, true, false, false, false, false, false, false, false] rfl rfl (any_of HT_.out (by kernel_rfl)) (fun _ _ _ h => h) (Or.inl ⟨by rfl, ?_⟩) ?_ ?_
                 rotate_left
                 ·
                  intro w'
                  go_simp
                  with_reducible rfl
                 rotate_left
                 ·
                  simp only [Act.put, List.setIfInBounds_toArray, List.set_cons_zero, List.set_cons_succ, i64_w, i32_w]
                  rfl
                 refine pure_ (i := 5) (N := some 104) (v := ?_) (a' := ?_) #[true, true, true, true, false, true, false, false, false, false, false] rfl rfl (any_of HT_.out (by kernel_rfl)) (fun _ _ _ h => h) (Or.inl ⟨by rfl, ?_⟩) ?_ ?_
                 rotate_left
                 ·
                  intro w'
                  go_simp
                  with_reducible rfl
                 rotate_left
                 ·
                  simp only [Act.put, List.setIfInBounds_toArray, List.set_cons_zero, List.set_cons_succ, i64_w, i32_w]
                  rfl
                 refine pure_ (i := 6) (N := some 105) (v := ?_) (a' := ?_) #[true, true, true, true, false, true, true, false, false, false, false] rfl rfl (any_of HT_.out (by kernel_rfl)) (fun _ _ _ h => h) (Or.inl ⟨by rfl, ?_⟩) ?_ ?_
                 rotate_left
                 ·
                  intro w'
                  go_simp
                  with_reducible rfl
                 rotate_left
                 ·
                  simp only [Act.put, List.setIfInBounds_toArray, List.set_cons_zero, List.set_cons_succ, i64_w, i32_w]
                  rfl
                 refine pure_ (i := 7) (N := some 106) (v := ?_) (a' := ?_) #[true, true, true, true, false, true, true, true, false, false, false] rfl rfl (any_of HT_.out (by kernel_rfl)) (fun _ _ _ h => h) (Or.inl ⟨by rfl, ?_⟩) ?_ ?_
                 rotate_left
                 ·
                  intro w'
                  go_simp
                  with_reducible rfl
                 rotate_left
                 ·
                  simp only [Act.put, List.setIfInBounds_toArray, List.set_cons_zero, List.set_cons_succ, i64_w, i32_w]
                  rfl
                 refine pure_ (i := 8) (N := some 107) (v := ?_) (a' := ?_) #[true, true, true, true, false, true, true, true, true, false, false] rfl rfl (any_of HT_.out (by kernel_rfl)) (fun _ _ _ h => h) (Or.inl ⟨by rfl, ?_⟩) ?_ ?_
                 rotate_left
                 ·
                  intro w'
                  go_simp
                  with_reducible rfl
                 rotate_left
                 ·
                  simp only [Act.put, List.setIfInBounds_toArray, List.set_cons_zero, List.set_cons_succ, i64_w, i32_w]
                  rfl
                 refine take_ (i := 4) (N := some 103) (v := ?_) (a' := ?_) #[true, true, true, true, true, true, true, true, true, false, false] rfl rfl (take_ofW HT_.out HW_.out (by kernel_rfl)) (fun _ _ _ h => h) (Or.inl ⟨by rfl, ?_⟩) hHeld ?_ ?_
                 rotate_left
                 ·
                  rintro w' ⟨s0, s1, s2, s3⟩
                  go_simp
                  with_reducible rfl
                 rotate_left
                 ·
                  simp only [Act.put, List.setIfInBounds_toArray, List.set_cons_zero, List.set_cons_succ, i64_w, i32_w]
                  rfl
                 refine take_ (i := 9) (N := some 108) (v := ?_) (a' := ?_) #[true, true, true, true, true, true, true, true, true, true, false] rfl rfl (take_ofW HT_.out HW_.out (by kernel_rfl)) (fun _ _ _ h => h) (Or.inl ⟨by rfl, ?_⟩) hHeld ?_ ?_
                 rotate_left
                 ·
                  rintro w' ⟨s0, s1, s2, s3⟩
                  go_simp
                  with_reducible rfl
                 rotate_left
                 ·
                  simp only [Act.put, List.setIfInBounds_toArray, List.set_cons_zero, List.set_cons_succ, i64_w, i32_w]
                  rfl
                 refine pure_ (i := 10) (N := some 109) (v := ?_) (a' := ?_) #[true, true, true, true, true, true, true, true, true, true, true] rfl rfl (any_of HT_.out (by kernel_rfl)) (fun _ _ _ h => h) (Or.inl ⟨by rfl, ?_⟩) ?_ ?_
                 rotate_left
                 ·
                  intro w'
                  go_simp
                  with_reducible rfl
                 rotate_left
                 ·
                  simp only [Act.put, List.setIfInBounds_toArray, List.set_cons_zero, List.set_cons_succ, i64_w, i32_w]
                  rfl
                 refine done_ (done_of HT_.out (by kernel_rfl)) ?_
                 try go_wp2
                 have n0_ := Aside0.mk (Kd.R_drew HO_8.out)
                 have n1_ := Aside0.mk (Kd.R_drew HO_111000.out)
                 have n2_ := Aside0.mk (Kd.R_drew HO_111001.out)
                 have n3_ := Aside0.mk (blk_drew BK101.out)
                 have n4_ := Aside0.mk (blk_drew BK110.out)
                 have n5_ := Aside0.mk (blk_drew BK125.out)
                 have n6_ := Aside0.mk (below_drew1 HB.out)
                 clear HO_8
                 clear HO_111000
                 clear HO_111001
                 clear BK101
                 clear BK110
                 clear BK125
                 clear HB
                 have HO_8 := n0_
                 have HO_111000 := n1_
                 have HO_111001 := n2_
                 have BK101 := n3_
                 have BK110 := n4_
                 have BK125 := n5_
                 have HB := n6_
                 clear n0_ n1_ n2_ n3_ n4_ n5_ n6_
                 have p141 : 0 ≤ (x10_2 : Int) := of_decide_eq_true (by first | (with_reducible assumption) | assumption)
                 have q141 : x10_2 < (t119.length : Int) := of_decide_eq_true (by first | (with_reducible assumption) | assumption)
                 obtain ⟨ad141, e141, hx141_0, hx141_1⟩ := at_T40 (Kd.R_reads' HO_8.out).2.2 x10_2 p141 q141
                 obtain rfl : ad139 = ad141 := (by injection e141)
                 replace p141 := eq_true p141
                 replace q141 := eq_true q141
                 refine start_ (n := 14) (S := fun w' => w'.cell? ⟨gb110, 0, none⟩ = some (.slice (some ad124) t102.length co12) ∧ w'.cell? ⟨gb110, 1, none⟩ = some (.slice Ao15 t105.length co15) ∧ w'.cell? ⟨gb110, 2, none⟩ = some (.int .i64 t108) ∧ w'.cell? ⟨gb110, 3, none⟩ = some (.int .i64 t109) ∧ w'.cell? ⟨gb125, 0, none⟩ = some (.int .i64 ((rd_T42 t102 x10_2).f0.f0)) ∧ w'.cell? ⟨gb125, 1, none⟩ = some (.int .i64 ((rd_T42 t102 x10_2).f0.f1)) ∧ w'.cell? (ad139.add ((x10_2).toNat * 2)) = some (.int .i64 ((rd_T40 t119 x10_2).f0)) ∧ w'.cell? ⟨(ad139.add ((x10_2).toNat * 2)).block, (ad139.add ((x10_2).toNat * 2)).off + 1, none⟩ = some (.int .i64 ((rd_T40 t119 x10_2).f1))) (ds := []) #[false, false, false, false, false, false, false, false, false, false, false, false, false, false] (by kernel_rfl) rfl rfl ⟨(blk_cell BK110.out 0).trans rfl, (blk_cell BK110.out 1).trans rfl, (blk_cell BK110.out 2).trans rfl, (blk_cell BK110.out 3).trans rfl, (blk_cell BK125.out 0).trans rfl, (blk_cell BK125.out 1).trans rfl, hx141_0, hx141_1⟩ (fun hHeld => ?_); refine with_tabW walkmilllaw05_TenterNever.tab15 walkmilllaw05_TenterNever.bits15 (fun HT_ HW_ => ?_)
                 generalize w64.drew = w65 at HO_8 HO_111000 HO_111001 BK101 BK110 BK125 HB hx141_0 hx141_1 hHeld ⊢
                 refine pure_ (i := 0) (N := some 110) (v := ?_) (a' := ?_) #[true, false, false, false, false, false, false, false, false, false, false, false, false, false] rfl rfl (any_of HT_.out (by kernel_rfl)) (fun _ _ _ h => h) (Or.inl ⟨by rfl, ?_⟩) ?_ ?_
                 rotate_left
                 ·
                  intro w'
                  go_simp
                  with_reducible rfl
                 rotate_left
                 ·
                  simp only [Act.put, List.setIfInBounds_toArray, List.set_cons_zero, List.set_cons_succ, i64_w, i32_w]
                  rfl
                 refine pure_ (i := 1) (N := some 111) (v := ?_) (a' := ?_) #[true, true, false, false, false, false, false, false, false, false, false, false, false, false] rfl rfl (any_of HT_.out (by kernel_rfl)) (fun _ _ _ h => h) (Or.inl ⟨by rfl, ?_⟩) ?_ ?_
                 rotate_left
                 ·
                  intro w'
                  go_simp
                  with_reducible rfl
                 rotate_left
                 ·
                  simp only [Act.put, List.setIfInBounds_toArray, List.set_cons_zero, List.set_cons_succ, i64_w, i32_w]
                  rfl
                 refine pure_ (i := 2) (N := some 112) (v := ?_) (a' := ?_) #[true, true, true, false, false, false, false, false, false, false, false, false, false, false] rfl rfl (any_of HT_.out (by kernel_rfl)) (fun _ _ _ h => h) (Or.inl ⟨by rfl, ?_⟩) ?_ ?_
                 rotate_left
                 ·
                  intro w'
                  go_simp
                  with_reducible rfl
                 rotate_left
                 ·
                  simp only [Act.put, List.setIfInBounds_toArray, List.set_cons_zero, List.set_cons_succ, i64_w, i32_w]
                  rfl
                 refine take_ (i := 3) (N := some 113) (v := ?_) (a' := ?_) #[true, true, true, true, false, false, false, false, false, false, false, false, false, false] rfl rfl (take_ofW HT_.out HW_.out (by kernel_rfl)) (fun _ _ _ h => h) (Or.inl ⟨by rfl, ?_⟩) hHeld ?_ ?_
                 rotate_left
                 ·
                  rintro w' ⟨s0, s1, s2, s3, s4, s5, s6, s7⟩
                  go_simp
                  with_reducible rfl
                 rotate_left
                 ·
                  simp only [Act.put, List.setIfInBounds_toArray, List.set_cons_zero, List.set_cons_succ, i64_w, i32_w]
                  rfl
                 refine one_ (i := 4) (N := some 114) #[true, true, true, true, true, false, false, false, false, false, false, false, false, false] rfl rfl (one_of HT_.out (by kernel_rfl)) (by decide) (fun K hK => ?_)
                 refine goes_ Tryd.func13 (by kernel_rfl) rfl #[.int .i64 1, .int .i64 0] (by rfl) rfl rfl (by (try simp only [List.map_toArray, List.map_cons, List.map_nil]); first | done | rfl | (simp only [List.length_drop, List.length_take]; rfl)) ?_
                 with_reducible refine (walkmilllaw05_span.calls 1 0 t142 t143 _ A60.out).mono ?_
                 rintro e w66 ⟨rfl, hb⟩
                 have HS6_ := (hb.cell (World.block_lt_of_cell? _ _ (hHeld.2.2.2.2.2.2.1))).trans (hHeld.2.2.2.2.2.2.1)
                 have HS7_ := (hb.cell (World.block_lt_of_cell? _ _ (hHeld.2.2.2.2.2.2.2))).trans (hHeld.2.2.2.2.2.2.2)
                 refine ⟨_, rfl, ?_⟩
                 have n0_ := Aside0.mk (Kd.R_below (by (with_reducible repeat (first | apply Kd.R_alloc | apply Kd.R_drewN | apply Kd.R_drew)); exact HO_8.out) hb)
                 have n1_ := Aside0.mk (Kd.R_below (by (with_reducible repeat (first | apply Kd.R_alloc | apply Kd.R_drewN | apply Kd.R_drew)); exact HO_111000.out) hb)
                 have n2_ := Aside0.mk (Kd.R_below (by (with_reducible repeat (first | apply Kd.R_alloc | apply Kd.R_drewN | apply Kd.R_drew)); exact HO_111001.out) hb)
                 have n3_ := Aside0.mk (blk_below (g := gb101) (o := .cells #[.slice A0_0 l0_0.length c0_0, .int .u8 a0_1, .int .u8 a0_2, .int .u8 a0_3, .int .u8 a0_4, .int .u8 a0_5, .slice A0_6 l0_6.length c0_6] 26 (0, 0)) (by (with_reducible repeat (first | refine blk_drewN ?_ _ | refine blk_drew ?_ | refine blk_alloc ?_ _)); exact BK101.out) hb)
                 have n4_ := Aside0.mk (blk_below (g := gb110) (o := .cells #[.slice (some ad124) t102.length co12, .slice Ao15 t105.length co15, .int .i64 t108, .int .i64 t109] 32 (0, 0)) (by (with_reducible repeat (first | refine blk_drewN ?_ _ | refine blk_drew ?_ | refine blk_alloc ?_ _)); exact BK110.out) hb)
                 have n5_ := Aside0.mk (blk_below (g := gb125) (o := .cells #[.int .i64 ((rd_T42 t102 x10_2).f0.f0), .int .i64 ((rd_T42 t102 x10_2).f0.f1)] 40 (0, 0)) (by (with_reducible repeat (first | refine blk_drewN ?_ _ | refine blk_drew ?_ | refine blk_alloc ?_ _)); exact BK125.out) hb)
                 have n6_ := Aside0.mk (below_step (by repeat (first | (with_reducible first | exact HB.out | apply below_alloc | apply pw_below_drewN | apply below_drew1 | refine below_set ?_ GE101.out | refine below_set ?_ GE110.out | refine below_set ?_ GE125.out) | exact HB.out)) hb)
                 clear HO_8
                 clear HO_111000
                 clear HO_111001
                 clear BK101
                 clear BK110
                 clear BK125
                 clear HB
                 have HO_8 := n0_
                 have HO_111000 := n1_
                 have HO_111001 := n2_
                 have BK101 := n3_
                 have BK110 := n4_
                 have BK125 := n5_
                 have HB := n6_
                 clear n0_ n1_ n2_ n3_ n4_ n5_ n6_
                 (try clear hb)
                 (try clear hb2)
                 (try clear hk)
                 (try clear hi)
                 refine hK.out _ _ ⟨(blk_cell BK110.out 0).trans rfl, (blk_cell BK110.out 1).trans rfl, (blk_cell BK110.out 2).trans rfl, (blk_cell BK110.out 3).trans rfl, (blk_cell BK125.out 0).trans rfl, (blk_cell BK125.out 1).trans rfl, HS6_, HS7_⟩ (fun hHeld => ?_)
                 clear hK K
                 refine norm_ (a' := ?_) ?_ ?_
                 rotate_left
                 ·
                  show Act.put _ (some 114) _ = _
                  simp only [Act.put, List.setIfInBounds_toArray, List.set_cons_zero, List.set_cons_succ, i64_w, i32_w]
                  rfl
                 refine pure_ (i := 5) (N := some 115) (v := ?_) (a' := ?_) #[true, true, true, true, true, true, false, false, false, false, false, false, false, false] rfl rfl (any_of HT_.out (by kernel_rfl)) (fun _ _ _ h => h) (Or.inl ⟨by rfl, ?_⟩) ?_ ?_
                 rotate_left
                 ·
                  intro w'
                  go_simp
                  with_reducible rfl
                 rotate_left
                 ·
                  simp only [Act.put, List.setIfInBounds_toArray, List.set_cons_zero, List.set_cons_succ, i64_w, i32_w]
                  rfl
                 refine pure_ (i := 6) (N := some 116) (v := ?_) (a' := ?_) #[true, true, true, true, true, true, true, false, false, false, false, false, false, false] rfl rfl (any_of HT_.out (by kernel_rfl)) (fun _ _ _ h => h) (Or.inl ⟨by rfl, ?_⟩) ?_ ?_
                 rotate_left
                 ·
                  intro w'
                  go_simp
                  with_reducible rfl
                 rotate_left
                 ·
                  simp only [Act.put, List.setIfInBounds_toArray, List.set_cons_zero, List.set_cons_succ, i64_w, i32_w]
                  rfl
                 refine pure_ (i := 8) (N := some 118) (v := ?_) (a' := ?_) #[true, true, true, true, true, true, true, false, true, false, false, false, false, false] rfl rfl (any_of HT_.out (by kernel_rfl)) (fun _ _ _ h => h) (Or.inl ⟨by rfl, ?_⟩) ?_ ?_
                 rotate_left
                 ·
                  intro w'
                  go_simp
                  with_reducible rfl
                 rotate_left
                 ·
                  simp only [Act.put, List.setIfInBounds_toArray, List.set_cons_zero, List.set_cons_succ, i64_w, i32_w]
                  rfl
                 refine pure_ (i := 10) (N := some 120) (v := ?_) (a' := ?_) #[true, true, true, true, true, true, true, false, true, false, true, false, false, false] rfl rfl (any_of HT_.out (by kernel_rfl)) (fun _ _ _ h => h) (Or.inl ⟨by rfl, ?_⟩) ?_ ?_
                 rotate_left
                 ·
                  intro w'
                  go_simp
                  with_reducible rfl
                 rotate_left
                 ·
                  simp only [Act.put, List.setIfInBounds_toArray, List.set_cons_zero, List.set_cons_succ, i64_w, i32_w]
                  rfl
                 refine take_ (i := 7) (N := some 117) (v := ?_) (a' := ?_) #[true, true, true, true, true, true, true, true, true, false, true, false, false, false] rfl rfl (take_ofW HT_.out HW_.out (by kernel_rfl)) (fun _ _ _ h => h) (Or.inl ⟨by rfl, ?_⟩) hHeld ?_ ?_
                 rotate_left
                 ·
                  rintro w' ⟨s0, s1, s2, s3, s4, s5, s6, s7⟩
                  go_simp
                  with_reducible rfl
                 rotate_left
                 ·
                  simp only [Act.put, List.setIfInBounds_toArray, List.set_cons_zero, List.set_cons_succ, i64_w, i32_w]
                  rfl
                 refine take_ (i := 9) (N := some 119) (v := ?_) (a' := ?_) #[true, true, true, true, true, true, true, true, true, true, true, false, false, false] rfl rfl (take_ofW HT_.out HW_.out (by kernel_rfl)) (fun _ _ _ h => h) (Or.inl ⟨by rfl, ?_⟩) hHeld ?_ ?_
                 rotate_left
                 ·
                  rintro w' ⟨s0, s1, s2, s3, s4, s5, s6, s7⟩
                  go_simp
                  with_reducible rfl
                 rotate_left
                 ·
                  simp only [Act.put, List.setIfInBounds_toArray, List.set_cons_zero, List.set_cons_succ, i64_w, i32_w]
                  rfl
                 refine take_ (i := 11) (N := some 121) (v := ?_) (a' := ?_) #[true, true, true, true, true, true, true, true, true, true, true, true, false, false] rfl rfl (take_ofW HT_.out HW_.out (by kernel_rfl)) (fun _ _ _ h => h) (Or.inl ⟨by rfl, ?_⟩) hHeld ?_ ?_
                 rotate_left
                 ·
                  rintro w' ⟨s0, s1, s2, s3, s4, s5, s6, s7⟩
                  go_simp
                  with_reducible rfl
                 rotate_left
                 ·
                  simp only [Act.put, List.setIfInBounds_toArray, List.set_cons_zero, List.set_cons_succ, i64_w, i32_w]
                  rfl
                 refine one_ (i := 12) (N := some 122) #[true, true, true, true, true, true, true, true, true, true, true, true, true, false] rfl rfl (one_of HT_.out (by kernel_rfl)) (by decide) (fun K hK => ?_)
                 refine goes_ Tryd.func14 (by kernel_rfl) rfl #[.agg #[.slice (some ad124) t102.length co12, .slice Ao15 t105.length co15, .int .i64 t108, .int .i64 t109], .int .i64 ((rd_T42 t102 x10_2).f0.f0), .int .i64 ((rd_T42 t102 x10_2).f0.f1)] (by rfl) rfl rfl (by (try simp only [List.map_toArray, List.map_cons, List.map_nil]); first | done | rfl | (simp only [List.length_drop, List.length_take]; rfl)) ?_
                 with_reducible refine (walkmilllaw05_pulled.calls _ _ t102 _ _ t105 t108 t109 ((rd_T42 t102 x10_2).f0.f0) ((rd_T42 t102 x10_2).f0.f1) false _ ?side1 ?side2 ?side3 ?side4 A62.out).mono ?_
                 (case side1 => repeat (first | exact (Kd.R_reads' HO_111000.out).2.2 | (with_reducible refine Kd.C_alloc ?_ _) | (with_reducible refine Kd.C_drewN ?_ _) | (with_reducible refine Kd.C_drew ?_)))
                 (case side2 => exact (Kd.R_reads' HO_111000.out).2.1)
                 (case side3 => repeat (first | exact (Kd.R_reads' HO_111001.out).2.2 | (with_reducible refine Kd.C_alloc ?_ _) | (with_reducible refine Kd.C_drewN ?_ _) | (with_reducible refine Kd.C_drew ?_)))
                 (case side4 => exact (Kd.R_reads' HO_111001.out).2.1)
                 rintro e w67 ⟨rfl, hb⟩
                 have HS6_ := (hb.cell (World.block_lt_of_cell? _ _ (hHeld.2.2.2.2.2.2.1))).trans (hHeld.2.2.2.2.2.2.1)
                 have HS7_ := (hb.cell (World.block_lt_of_cell? _ _ (hHeld.2.2.2.2.2.2.2))).trans (hHeld.2.2.2.2.2.2.2)
                 refine ⟨_, rfl, ?_⟩
                 have n0_ := Aside0.mk (Kd.R_below (by (with_reducible repeat (first | apply Kd.R_alloc | apply Kd.R_drewN | apply Kd.R_drew)); exact HO_8.out) hb)
                 have n1_ := Aside0.mk (Kd.R_below (by (with_reducible repeat (first | apply Kd.R_alloc | apply Kd.R_drewN | apply Kd.R_drew)); exact HO_111000.out) hb)
                 have n2_ := Aside0.mk (Kd.R_below (by (with_reducible repeat (first | apply Kd.R_alloc | apply Kd.R_drewN | apply Kd.R_drew)); exact HO_111001.out) hb)
                 have n3_ := Aside0.mk (blk_below (g := gb101) (o := .cells #[.slice A0_0 l0_0.length c0_0, .int .u8 a0_1, .int .u8 a0_2, .int .u8 a0_3, .int .u8 a0_4, .int .u8 a0_5, .slice A0_6 l0_6.length c0_6] 26 (0, 0)) (by (with_reducible repeat (first | refine blk_drewN ?_ _ | refine blk_drew ?_ | refine blk_alloc ?_ _)); exact BK101.out) hb)
                 have n4_ := Aside0.mk (blk_below (g := gb110) (o := .cells #[.slice (some ad124) t102.length co12, .slice Ao15 t105.length co15, .int .i64 t108, .int .i64 t109] 32 (0, 0)) (by (with_reducible repeat (first | refine blk_drewN ?_ _ | refine blk_drew ?_ | refine blk_alloc ?_ _)); exact BK110.out) hb)
                 have n5_ := Aside0.mk (blk_below (g := gb125) (o := .cells #[.int .i64 ((rd_T42 t102 x10_2).f0.f0), .int .i64 ((rd_T42 t102 x10_2).f0.f1)] 40 (0, 0)) (by (with_reducible repeat (first | refine blk_drewN ?_ _ | refine blk_drew ?_ | refine blk_alloc ?_ _)); exact BK125.out) hb)
                 have n6_ := Aside0.mk (below_step (by repeat (first | (with_reducible first | exact HB.out | apply below_alloc | apply pw_below_drewN | apply below_drew1 | refine below_set ?_ GE101.out | refine below_set ?_ GE110.out | refine below_set ?_ GE125.out) | exact HB.out)) hb)
                 clear HO_8
                 clear HO_111000
                 clear HO_111001
                 clear BK101
                 clear BK110
                 clear BK125
                 clear HB
                 have HO_8 := n0_
                 have HO_111000 := n1_
                 have HO_111001 := n2_
                 have BK101 := n3_
                 have BK110 := n4_
                 have BK125 := n5_
                 have HB := n6_
                 clear n0_ n1_ n2_ n3_ n4_ n5_ n6_
                 (try clear hb)
                 (try clear hb2)
                 (try clear hk)
                 (try clear hi)
                 refine hK.out _ _ ⟨(blk_cell BK110.out 0).trans rfl, (blk_cell BK110.out 1).trans rfl, (blk_cell BK110.out 2).trans rfl, (blk_cell BK110.out 3).trans rfl, (blk_cell BK125.out 0).trans rfl, (blk_cell BK125.out 1).trans rfl, HS6_, HS7_⟩ (fun hHeld => ?_)
                 clear hK K
                 refine norm_ (a' := ?_) ?_ ?_
                 rotate_left
                 ·
                  show Act.put _ (some 122) _ = _
                  simp only [Act.put, List.setIfInBounds_toArray, List.set_cons_zero, List.set_cons_succ, i64_w, i32_w]
                  rfl
                 refine pure_ (i := 13) (N := some 123) (v := ?_) (a' := ?_) #[true, true, true, true, true, true, true, true, true, true, true, true, true, true] rfl rfl (any_of HT_.out (by kernel_rfl)) (fun _ _ _ h => h) (Or.inl ⟨by rfl, ?_⟩) ?_ ?_
                 rotate_left
                 ·
                  intro w'
                  go_simp
                  with_reducible rfl
                 rotate_left
                 ·
                  simp only [Act.put, List.setIfInBounds_toArray, List.set_cons_zero, List.set_cons_succ, i64_w, i32_w]
                  rfl
                 refine done_ (done_of HT_.out (by kernel_rfl)) ?_
                 try go_wp2
                 go_roundg kj31
                 case measure => have := HJ6.out; have := HK2.out; have := HJ31.out; omega
                 case rel => exact ⟨(wrap64 (x10_2 + 1)), (by first | rfl | (simp; done) | (simp [*]; done)), H', ⟨by have := HJ6.out; have := HK2.out; have := HJ31.out; omega⟩, ⟨by (with_reducible repeat (first | apply Kd.R_alloc | apply Kd.R_drewN | apply Kd.R_drew)); exact Kd.R_mono HO_8.out (fun _ hk => trivial)⟩, ⟨by (with_reducible repeat (first | apply Kd.R_alloc | apply Kd.R_drewN | apply Kd.R_drew)); exact HO_111000.out⟩, ⟨by (with_reducible repeat (first | apply Kd.R_alloc | apply Kd.R_drewN | apply Kd.R_drew)); exact HO_111001.out⟩, ⟨by (with_reducible repeat (first | refine blk_drewN ?_ _ | refine blk_drew ?_ | refine blk_alloc ?_ _)); exact BK101.out⟩, ⟨by (with_reducible repeat (first | refine blk_drewN ?_ _ | refine blk_drew ?_ | refine blk_alloc ?_ _)); exact BK110.out⟩, ⟨by repeat (first | (with_reducible first | exact HB.out | apply below_alloc | apply pw_below_drewN | apply below_drew1 | refine below_set ?_ GE101.out | refine below_set ?_ GE110.out | refine below_set ?_ GE125.out) | exact HB.out)⟩⟩
              ·
               rw [if_neg c59] at H
               have c59b0 : decide (((rd_T40 t119 x10_2).f1) < ((rd_T40 t119 x10_2).f0)) = false := decide_eq_false c59
               clear c59
               have H' := Aside0.mk H
               clear H
               try go_wp2
               have n0_ := Aside0.mk (Kd.R_drew HO_8.out)
               have n1_ := Aside0.mk (Kd.R_drew HO_111000.out)
               have n2_ := Aside0.mk (Kd.R_drew HO_111001.out)
               have n3_ := Aside0.mk (blk_drew BK101.out)
               have n4_ := Aside0.mk (blk_drew BK110.out)
               have n5_ := Aside0.mk (blk_drew BK125.out)
               have n6_ := Aside0.mk (below_drew1 HB.out)
               clear HO_8
               clear HO_111000
               clear HO_111001
               clear BK101
               clear BK110
               clear BK125
               clear HB
               have HO_8 := n0_
               have HO_111000 := n1_
               have HO_111001 := n2_
               have BK101 := n3_
               have BK110 := n4_
               have BK125 := n5_
               have HB := n6_
               clear n0_ n1_ n2_ n3_ n4_ n5_ n6_
               have p139 : 0 ≤ (x10_2 : Int) := of_decide_eq_true (by first | (with_reducible assumption) | assumption)
               have q139 : x10_2 < (t119.length : Int) := of_decide_eq_true (by first | (with_reducible assumption) | assumption)
               obtain ⟨ad139, e139, hx139_0, hx139_1⟩ := at_T40 (Kd.R_reads' HO_8.out).2.2 x10_2 p139 q139
               cases e139
               replace p139 := eq_true p139
               replace q139 := eq_true q139
               have p140 : 0 ≤ (x10_2 : Int) := of_decide_eq_true (by first | (with_reducible assumption) | assumption)
               have q140 : x10_2 < (t119.length : Int) := of_decide_eq_true (by first | (with_reducible assumption) | assumption)
               obtain ⟨ad140, e140, hx140_0, hx140_1⟩ := at_T40 (Kd.R_reads' HO_8.out).2.2 x10_2 p140 q140
               obtain rfl : ad139 = ad140 := (by injection e140)
               replace p140 := eq_true p140
               replace q140 := eq_true q140
               refine start_ (n := 11) (S := fun w' => w'.cell? (ad139.add ((x10_2).toNat * 2)) = some (.int .i64 ((rd_T40 t119 x10_2).f0)) ∧ w'.cell? ⟨(ad139.add ((x10_2).toNat * 2)).block, (ad139.add ((x10_2).toNat * 2)).off + 1, none⟩ = some (.int .i64 ((rd_T40 t119 x10_2).f1)) ∧ w'.cell? (ad139.add ((x10_2).toNat * 2)) = some (.int .i64 ((rd_T40 t119 x10_2).f0)) ∧ w'.cell? ⟨(ad139.add ((x10_2).toNat * 2)).block, (ad139.add ((x10_2).toNat * 2)).off + 1, none⟩ = some (.int .i64 ((rd_T40 t119 x10_2).f1))) (ds := []) #[false, false, false, false, false, false, false, false, false, false, false] (by kernel_rfl) rfl rfl ⟨hx139_0, hx139_1, hx140_0, hx140_1⟩ (fun hHeld => ?_); refine with_tabW walkmilllaw05_TenterNever.tab14 walkmilllaw05_TenterNever.bits14 (fun HT_ HW_ => ?_)
               generalize wc.drew = w68 at HO_8 HO_111000 HO_111001 BK101 BK110 BK125 HB hx139_0 hx139_1 hx140_0 hx140_1 hHeld ⊢
               refine pure_ (i := 0) (N := some 99) (v := ?_) (a' := ?_) #[true, false, false, false, false, false, false, false, false, false, false] rfl rfl (any_of HT_.out (by kernel_rfl)) (fun _ _ _ h => h) (Or.inl ⟨by rfl, ?_⟩) ?_ ?_
               rotate_left
               ·
                intro w'
                go_simp
                with_reducible rfl
               rotate_left
               ·
                simp only [Act.put, List.setIfInBounds_toArray, List.set_cons_zero, List.set_cons_succ, i64_w, i32_w]
                rfl
               refine pure_ (i := 1) (N := some 100) (v := ?_) (a' := ?_) #[true, true, false, false, false, false, false, false, false, false, false] rfl rfl (any_of HT_.out (by kernel_rfl)) (fun _ _ _ h => h) (Or.inl ⟨by rfl, ?_⟩) ?_ ?_
               rotate_left
               ·
                intro w'
                go_simp
                with_reducible rfl
               rotate_left
               ·
                simp only [Act.put, List.setIfInBounds_toArray, List.set_cons_zero, List.set_cons_succ, i64_w, i32_w]
                rfl
               refine pure_ (i := 2) (N := some 101) (v := ?_) (a' := ?_) #[true, true, true, false, false, false, false, false, false, false, false] rfl rfl (any_of HT_.out (by kernel_rfl)) (fun _ _ _ h => h) (Or.inl ⟨by rfl, ?_⟩) ?_ ?_
               rotate_left
               ·
                intro w'
                go_simp
                with_reducible rfl
               rotate_left
               ·
                simp only [Act.put, List.setIfInBounds_toArray, List.set_cons_zero, List.set_cons_succ, i64_w, i32_w]
                rfl
               refine pure_ (i := 3) (N := some 102) (v := ?_) (a' := ?_) #[true, true, true, true, false, false, false, false, false, false, false] rfl rfl (any_of HT_.out (by kernel_rfl)) (fun _ _ _ h => h) (Or.inl ⟨by rfl, ?_⟩) ?_ ?_
               rotate_left
               ·
                intro w'
                go_simp
                with_reducible rfl
               rotate_left
               ·
                simp only [Act.put, List.setIfInBounds_toArray, List.set_cons_zero, List.set_cons_succ, i64_w, i32_w]
                rfl
               refine pure_ (i := 5) (N := some 104) (v := ?_) (a' := ?_) #[true, true, true, true, false, true, false, false, false, false, false] rfl rfl (any_of HT_.out (by kernel_rfl)) (fun _ _ _ h => h) (Or.inl ⟨by rfl, ?_⟩) ?_ ?_
               rotate_left
               ·
                intro w'
                go_simp
                with_reducible rfl
               rotate_left
               ·
                simp only [Act.put, List.setIfInBounds_toArray, List.set_cons_zero, List.set_cons_succ, i64_w, i32_w]
                rfl
               refine pure_ (i := 6) (N := some 105) (v := ?_) (a' := ?_) #[true, true, true, true, false, true, true, false, false, false, false] rfl rfl (any_of HT_.out (by kernel_rfl)) (fun _ _ _ h => h) (Or.inl ⟨by rfl, ?_⟩) ?_ ?_
               rotate_left
               ·
                intro w'
                go_simp
                with_reducible rfl
               rotate_left
               ·
                simp only [Act.put, List.setIfInBounds_toArray, List.set_cons_zero, List.set_cons_succ, i64_w, i32_w]
                rfl
               refine pure_ (i := 7) (N := some 106) (v := ?_) (a' := ?_) #[true, true, true, true, false, true, true, true, false, false, false] rfl rfl (any_of HT_.out (by kernel_rfl)) (fun _ _ _ h => h) (Or.inl ⟨by rfl, ?_⟩) ?_ ?_
               rotate_left
               ·
                intro w'
                go_simp
                with_reducible rfl
               rotate_left
               ·
                simp only [Act.put, List.setIfInBounds_toArray, List.set_cons_zero, List.set_cons_succ, i64_w, i32_w]
                rfl
               refine pure_ (i := 8) (N := some 107) (v := ?_) (a' := ?_) #[true, true, true, true, false, true, true, true, true, false, false] rfl rfl (any_of HT_.out (by kernel_rfl)) (fun _ _ _ h => h) (Or.inl ⟨by rfl, ?_⟩) ?_ ?_
               rotate_left
               ·
                intro w'
                go_simp
                with_reducible rfl
               rotate_left
               ·
                simp only [Act.put, List.setIfInBounds_toArray, List.set_cons_zero, List.set_cons_succ, i64_w, i32_w]
                rfl
               refine take_ (i := 4) (N := some 103) (v := ?_) (a' := ?_) #[true, true, true, true, true, true, true, true, true, false, false] rfl rfl (take_ofW HT_.out HW_.out (by kernel_rfl)) (fun _ _ _ h => h) (Or.inl ⟨by rfl, ?_⟩) hHeld ?_ ?_
               rotate_left
               ·
                rintro w' ⟨s0, s1, s2, s3⟩
                go_simp
                with_reducible rfl
               rotate_left
               ·
                simp only [Act.put, List.setIfInBounds_toArray, List.set_cons_zero, List.set_cons_succ, i64_w, i32_w]
                rfl
               refine take_ (i := 9) (N := some 108) (v := ?_) (a' := ?_) #[true, true, true, true, true, true, true, true, true, true, false] rfl rfl (take_ofW HT_.out HW_.out (by kernel_rfl)) (fun _ _ _ h => h) (Or.inl ⟨by rfl, ?_⟩) hHeld ?_ ?_
               rotate_left
               ·
                rintro w' ⟨s0, s1, s2, s3⟩
                go_simp
                with_reducible rfl
               rotate_left
               ·
                simp only [Act.put, List.setIfInBounds_toArray, List.set_cons_zero, List.set_cons_succ, i64_w, i32_w]
                rfl
               refine pure_ (i := 10) (N := some 109) (v := ?_) (a' := ?_) #[true, true, true, true, true, true, true, true, true, true, true] rfl rfl (any_of HT_.out (by kernel_rfl)) (fun _ _ _ h => h) (Or.inl ⟨by rfl, ?_⟩) ?_ ?_
               rotate_left
               ·
                intro w'
                go_simp
                with_reducible rfl
               rotate_left
               ·
                simp only [Act.put, List.setIfInBounds_toArray, List.set_cons_zero, List.set_cons_succ, i64_w, i32_w]
                rfl
               refine done_ (done_of HT_.out (by kernel_rfl)) ?_
               try go_wp2
               go_loopg [18] kj31 (fun kq v18 w' => ∃ (x18_4 : Int), v18 = .int .i64 x18_4 ∧ Aside0 (walkmilllaw05_TenterNever.l1 kq l1 a2 t119 x10_2 t127 x18_4 t102 t105 t108 t109 ((rd_T42 t102 x10_2).f0.f0) ((rd_T42 t102 x10_2).f0.f1) = some r) ∧ Aside0 (kq ≤ kj31) ∧ Aside0 (Kd.R k40 40 w' w.heap.size (fun k_ => k_ ≠ gb125) (.slice (some ad139) t119.length co33) t119) ∧ Aside0 (Kd.R k42 42 w' w.heap.size (fun _ => True) (.slice (some ad124) t102.length co12) t102) ∧ Aside0 (Kd.R (Kd.int .i64) 3 w' w.heap.size (fun _ => True) (.slice Ao15 t105.length co15) t105) ∧ Aside0 (w'.heap[gb101]? = some (.cells #[(.slice A0_0 l0_0.length c0_0), .int .u8 a0_1, .int .u8 a0_2, .int .u8 a0_3, .int .u8 a0_4, .int .u8 a0_5, (.slice A0_6 l0_6.length c0_6)] 26 (0, 0))) ∧ Aside0 (w'.heap[gb110]? = some (.cells #[(.slice (some ad124) t102.length co12), (.slice Ao15 t105.length co15), .int .i64 t108, .int .i64 t109] 32 (0, 0))) ∧ Aside0 (w'.heap[gb125]? = some (.cells #[.int .i64 ((rd_T42 t102 x10_2).f0.f0), .int .i64 ((rd_T42 t102 x10_2).f0.f1)] 40 (0, 0))) ∧ Aside0 (Below w.heap.size w w'))
               case atStart => exact ⟨(0), (by first | rfl | (simp; done) | (simp [*]; done)), H', ⟨Nat.le_refl _⟩, ⟨by (with_reducible repeat (first | apply Kd.R_alloc | apply Kd.R_drewN | apply Kd.R_drew)); exact HO_8.out⟩, ⟨by (with_reducible repeat (first | apply Kd.R_alloc | apply Kd.R_drewN | apply Kd.R_drew)); exact HO_111000.out⟩, ⟨by (with_reducible repeat (first | apply Kd.R_alloc | apply Kd.R_drewN | apply Kd.R_drew)); exact HO_111001.out⟩, ⟨by (with_reducible repeat (first | refine blk_drewN ?_ _ | refine blk_drew ?_ | refine blk_alloc ?_ _)); exact BK101.out⟩, ⟨by (with_reducible repeat (first | refine blk_drewN ?_ _ | refine blk_drew ?_ | refine blk_alloc ?_ _)); exact BK110.out⟩, ⟨by (with_reducible repeat (first | refine blk_drewN ?_ _ | refine blk_drew ?_ | refine blk_alloc ?_ _)); exact BK125.out⟩, ⟨by repeat (first | (with_reducible first | exact HB.out | apply below_alloc | apply pw_below_drewN | apply below_drew1 | refine below_set ?_ GE101.out | refine below_set ?_ GE110.out | refine below_set ?_ GE125.out) | exact HB.out)⟩⟩
               case round =>
                clear H'
                try clear c1
                try clear p1
                try clear q1
                try clear hx1
                try clear p2
                try clear c5
                try clear c6
                try clear p6
                try clear p12
                try clear q12
                try clear hx12
                try clear c13
                try clear p13
                try clear q13
                try clear hx13
                try clear c14
                try clear p14
                try clear q14
                try clear hx14
                try clear c56
                try clear c57
                try clear c57b0
                try clear c58
                try clear c58b0
                try clear c59
                try clear c59b0
                try clear c61
                try clear c61b0
                try clear c63
                try clear p64
                try clear hcz35_0
                try clear hcz35_1
                try clear hcz35_2
                try clear hcz35_3
                try clear hcz39_0
                try clear hcz39_1
                try clear hcz43_0
                try clear hcz43_1
                try clear hcz43_2
                try clear hcz43_3
                try clear hcz48_0
                try clear hcz48_1
                try clear hcz48_2
                try clear hcz48_3
                try clear hcz9_0
                try clear hcz9_1
                try clear hcz9_2
                try clear hcz9_3
                try clear hcz9_4
                try clear hcz9_5
                try clear hcz9_6
                try clear hfz14_0
                try clear hfz14_1
                try clear hfz14_2
                try clear hfz14_3
                try clear hfz23_0
                try clear hfz23_1
                try clear hfz23_2
                try clear hfz23_3
                try clear hfz35_0
                try clear hfz35_1
                try clear hfz35_2
                try clear hfz35_3
                try clear hfz39_0
                try clear hfz39_1
                try clear hfz43_0
                try clear hfz43_1
                try clear hfz43_2
                try clear hfz43_3
                try clear hfz48_0
                try clear hfz48_1
                try clear hfz48_2
                try clear hfz48_3
                try clear hfz9_0
                try clear hfz9_1
                try clear hfz9_2
                try clear hfz9_3
                try clear hfz9_4
                try clear hfz9_5
                try clear hfz9_6
                try clear hx124_0
                try clear hx124_1
                try clear hx124_2
                try clear hx124_3
                try clear hx139_0
                try clear hx139_1
                try clear hx140_0
                try clear hx140_1
                try clear hx141_0
                try clear hx141_1
                try clear p124
                try clear p139
                try clear p140
                try clear p141
                try clear p2
                try clear q124
                try clear q139
                try clear q140
                try clear q141
                obtain ⟨x18_4, rfl, HA, HK4, HO_8, HO_111000, HO_111001, BK101, BK110, BK125, HB⟩ := hrel
                cases gk with
                | zero => exact absurd HA.out (by simp [walkmilllaw05_TenterNever.l1])
                | succ k4 =>
                 have H := HA.out
                 clear HA
                 simp only [walkmilllaw05_TenterNever.l1] at H
                 by_cases c69 : x18_4 < 2
                 ·
                  rw [if_pos c69] at H
                  have c69b0 : decide (x18_4 < 2) = true := decide_eq_true c69
                  clear c69
                  by_cases c70 : 0 ≤ x10_2
                  ·
                   rw [if_pos c70] at H
                   have c70b0 : decide (0 ≤ x10_2) = true := decide_eq_true c70
                   clear c70
                   by_cases c71 : x10_2 < (t119.length : Int)
                   ·
                    rw [if_pos c71] at H
                    have c71b0 : decide (x10_2 < (t119.length : Int)) = true := decide_eq_true c71
                    clear c71
                    by_cases c72 : x18_4 = 0
                    ·
                     rw [if_pos c72] at H
                     have c72b0 : (x18_4 == 0) = true := beq_iff_eq.mpr c72
                     have c72b1 : (x18_4 != 0) = false := bne_eq_false_iff_eq.mpr c72
                     clear c72
                     replace H := Option.bind_eq_some_iff.mp H
                     obtain ⟨t147, A730, H⟩ := H
                     replace H : (if t147 = true then ((walkmilllaw05_pulled.f t102 t105 t108 t109 ((rd_T42 t102 x10_2).f0.f0) ((rd_T40 t119 x10_2).f0)).bind fun t148 => (if t148 = true then ((walkmilllaw05_pulled.f t102 t105 t108 t109 ((rd_T42 t102 x10_2).f0.f1) ((rd_T40 t119 x10_2).f0)).bind fun t149 => (if t149 = true then (walkmilllaw05_TenterNever.l1 k4 l1 a2 t119 x10_2 t127 (wrap64 (x18_4 + 1)) t102 t105 t108 t109 ((rd_T42 t102 x10_2).f0.f0) ((rd_T42 t102 x10_2).f0.f1)) else (some false))) else (some false))) else (some false)) = some r := H
                     have A73 := Aside0.mk A730
                     clear A730
                     by_cases c74 : t147 = true
                     ·
                      subst c74
                      have H1 : ((walkmilllaw05_pulled.f t102 t105 t108 t109 ((rd_T42 t102 x10_2).f0.f0) ((rd_T40 t119 x10_2).f0)).bind fun t148 => (if t148 = true then ((walkmilllaw05_pulled.f t102 t105 t108 t109 ((rd_T42 t102 x10_2).f0.f1) ((rd_T40 t119 x10_2).f0)).bind fun t149 => (if t149 = true then (walkmilllaw05_TenterNever.l1 k4 l1 a2 t119 x10_2 t127 (wrap64 (x18_4 + 1)) t102 t105 t108 t109 ((rd_T42 t102 x10_2).f0.f0) ((rd_T42 t102 x10_2).f0.f1)) else (some false))) else (some false))) = some r := by rw [if_pos rfl] at H; exact H
                      clear H
                      have H := H1
                      clear H1
                      replace H := Option.bind_eq_some_iff.mp H
                      obtain ⟨t148, A750, H⟩ := H
                      replace H : (if t148 = true then ((walkmilllaw05_pulled.f t102 t105 t108 t109 ((rd_T42 t102 x10_2).f0.f1) ((rd_T40 t119 x10_2).f0)).bind fun t149 => (if t149 = true then (walkmilllaw05_TenterNever.l1 k4 l1 a2 t119 x10_2 t127 (wrap64 (x18_4 + 1)) t102 t105 t108 t109 ((rd_T42 t102 x10_2).f0.f0) ((rd_T42 t102 x10_2).f0.f1)) else (some false))) else (some false)) = some r := H
                      have A75 := Aside0.mk A750
                      clear A750
                      by_cases c76 : t148 = true
                      ·
                       subst c76
                       have H1 : ((walkmilllaw05_pulled.f t102 t105 t108 t109 ((rd_T42 t102 x10_2).f0.f1) ((rd_T40 t119 x10_2).f0)).bind fun t149 => (if t149 = true then (walkmilllaw05_TenterNever.l1 k4 l1 a2 t119 x10_2 t127 (wrap64 (x18_4 + 1)) t102 t105 t108 t109 ((rd_T42 t102 x10_2).f0.f0) ((rd_T42 t102 x10_2).f0.f1)) else (some false))) = some r := by rw [if_pos rfl] at H; exact H
                       clear H
                       have H := H1
                       clear H1
                       replace H := Option.bind_eq_some_iff.mp H
                       obtain ⟨t149, A770, H⟩ := H
                       replace H : (if t149 = true then (walkmilllaw05_TenterNever.l1 k4 l1 a2 t119 x10_2 t127 (wrap64 (x18_4 + 1)) t102 t105 t108 t109 ((rd_T42 t102 x10_2).f0.f0) ((rd_T42 t102 x10_2).f0.f1)) else (some false)) = some r := H
                       have A77 := Aside0.mk A770
                       clear A770
                       by_cases c78 : t149 = true
                       ·
                        subst c78
                        have H1 : (walkmilllaw05_TenterNever.l1 k4 l1 a2 t119 x10_2 t127 (wrap64 (x18_4 + 1)) t102 t105 t108 t109 ((rd_T42 t102 x10_2).f0.f0) ((rd_T42 t102 x10_2).f0.f1)) = some r := by rw [if_pos rfl] at H; exact H
                        clear H
                        have H := H1
                        clear H1
                        have H' := Aside0.mk H
                        clear H
                        try go_wp2
                        have n0_ := Aside0.mk (Kd.R_drew HO_8.out)
                        have n1_ := Aside0.mk (Kd.R_drew HO_111000.out)
                        have n2_ := Aside0.mk (Kd.R_drew HO_111001.out)
                        have n3_ := Aside0.mk (blk_drew BK101.out)
                        have n4_ := Aside0.mk (blk_drew BK110.out)
                        have n5_ := Aside0.mk (blk_drew BK125.out)
                        have n6_ := Aside0.mk (below_drew1 HB.out)
                        clear HO_8
                        clear HO_111000
                        clear HO_111001
                        clear BK101
                        clear BK110
                        clear BK125
                        clear HB
                        have HO_8 := n0_
                        have HO_111000 := n1_
                        have HO_111001 := n2_
                        have BK101 := n3_
                        have BK110 := n4_
                        have BK125 := n5_
                        have HB := n6_
                        clear n0_ n1_ n2_ n3_ n4_ n5_ n6_
                        have p145 : 0 ≤ (x10_2 : Int) := of_decide_eq_true (by first | (with_reducible assumption) | assumption)
                        have q145 : x10_2 < (t119.length : Int) := of_decide_eq_true (by first | (with_reducible assumption) | assumption)
                        obtain ⟨ad145, e145, hx145_0, hx145_1⟩ := at_T40 (Kd.R_reads' HO_8.out).2.2 x10_2 p145 q145
                        obtain rfl : ad139 = ad145 := (by injection e145)
                        replace p145 := eq_true p145
                        replace q145 := eq_true q145
                        have p146 : 0 ≤ (x10_2 : Int) := of_decide_eq_true (by first | (with_reducible assumption) | assumption)
                        have q146 : x10_2 < (t119.length : Int) := of_decide_eq_true (by first | (with_reducible assumption) | assumption)
                        obtain ⟨ad146, e146, hx146_0, hx146_1⟩ := at_T40 (Kd.R_reads' HO_8.out).2.2 x10_2 p146 q146
                        obtain rfl : ad139 = ad146 := (by injection e146)
                        replace p146 := eq_true p146
                        replace q146 := eq_true q146
                        refine start_ (n := 14) (S := fun w' => w'.cell? (ad139.add ((x10_2).toNat * 2)) = some (.int .i64 ((rd_T40 t119 x10_2).f0)) ∧ w'.cell? ⟨(ad139.add ((x10_2).toNat * 2)).block, (ad139.add ((x10_2).toNat * 2)).off + 1, none⟩ = some (.int .i64 ((rd_T40 t119 x10_2).f1)) ∧ w'.cell? (ad139.add ((x10_2).toNat * 2)) = some (.int .i64 ((rd_T40 t119 x10_2).f0)) ∧ w'.cell? ⟨(ad139.add ((x10_2).toNat * 2)).block, (ad139.add ((x10_2).toNat * 2)).off + 1, none⟩ = some (.int .i64 ((rd_T40 t119 x10_2).f1))) (ds := []) #[false, false, false, false, false, false, false, false, false, false, false, false, false, false] (by kernel_rfl) rfl rfl ⟨hx145_0, hx145_1, hx146_0, hx146_1⟩ (fun hHeld => ?_); refine with_tabW walkmilllaw05_TenterNever.tab20 walkmilllaw05_TenterNever.bits20 (fun HT_ HW_ => ?_)
                        generalize wr.drew = w79 at HO_8 HO_111000 HO_111001 BK101 BK110 BK125 HB hx145_0 hx145_1 hx146_0 hx146_1 hHeld ⊢
                        refine pure_ (i := 0) (N := some 128) (v := ?_) (a' := ?_) #[true, false, false, false, false, false, false, false, false, false, false, false, false, false] rfl rfl (any_of HT_.out (by kernel_rfl)) (fun _ _ _ h => h) (Or.inl ⟨by rfl, ?_⟩) ?_ ?_
                        rotate_left
                        ·
                         intro w'
                         go_simp
                         with_reducible rfl
                        rotate_left
                        ·
                         simp only [Act.put, List.setIfInBounds_toArray, List.set_cons_zero, List.set_cons_succ, i64_w, i32_w]
                         rfl
                        refine pure_ (i := 1) (N := some 129) (v := ?_) (a' := ?_) #[true, true, false, false, false, false, false, false, false, false, false, false, false, false] rfl rfl (any_of HT_.out (by kernel_rfl)) (fun _ _ _ h => h) (Or.inl ⟨by rfl, ?_⟩) ?_ ?_
                        rotate_left
                        ·
                         intro w'
                         go_simp
                         with_reducible rfl
                        rotate_left
                        ·
                         simp only [Act.put, List.setIfInBounds_toArray, List.set_cons_zero, List.set_cons_succ, i64_w, i32_w]
                         rfl
                        refine pure_ (i := 2) (N := some 130) (v := ?_) (a' := ?_) #[true, true, true, false, false, false, false, false, false, false, false, false, false, false] rfl rfl (any_of HT_.out (by kernel_rfl)) (fun _ _ _ h => h) (Or.inl ⟨by rfl, ?_⟩) ?_ ?_
                        rotate_left
                        ·
                         intro w'
                         go_simp
                         with_reducible rfl
                        rotate_left
                        ·
                         simp only [Act.put, List.setIfInBounds_toArray, List.set_cons_zero, List.set_cons_succ, i64_w, i32_w]
                         rfl
                        refine pure_ (i := 3) (N := some 131) (v := ?_) (a' := ?_) #[true, true, true, true, false, false, false, false, false, false, false, false, false, false] rfl rfl (any_of HT_.out (by kernel_rfl)) (fun _ _ _ h => h) (Or.inl ⟨by rfl, ?_⟩) ?_ ?_
                        rotate_left
                        ·
                         intro w'
                         go_simp
                         with_reducible rfl
                        rotate_left
                        ·
                         simp only [Act.put, List.setIfInBounds_toArray, List.set_cons_zero, List.set_cons_succ, i64_w, i32_w]
                         rfl
                        refine pure_ (i := 5) (N := some 133) (v := ?_) (a' := ?_) #[true, true, true, true, false, true, false, false, false, false, false, false, false, false] rfl rfl (any_of HT_.out (by kernel_rfl)) (fun _ _ _ h => h) (Or.inl ⟨by rfl, ?_⟩) ?_ ?_
                        rotate_left
                        ·
                         intro w'
                         go_simp
                         with_reducible rfl
                        rotate_left
                        ·
                         simp only [Act.put, List.setIfInBounds_toArray, List.set_cons_zero, List.set_cons_succ, i64_w, i32_w]
                         rfl
                        refine pure_ (i := 6) (N := some 134) (v := ?_) (a' := ?_) #[true, true, true, true, false, true, true, false, false, false, false, false, false, false] rfl rfl (any_of HT_.out (by kernel_rfl)) (fun _ _ _ h => h) (Or.inl ⟨by rfl, ?_⟩) ?_ ?_
                        rotate_left
                        ·
                         intro w'
                         go_simp
                         with_reducible rfl
                        rotate_left
                        ·
                         simp only [Act.put, List.setIfInBounds_toArray, List.set_cons_zero, List.set_cons_succ, i64_w, i32_w]
                         rfl
                        refine pure_ (i := 7) (N := some 135) (v := ?_) (a' := ?_) #[true, true, true, true, false, true, true, true, false, false, false, false, false, false] rfl rfl (any_of HT_.out (by kernel_rfl)) (fun _ _ _ h => h) (Or.inl ⟨by rfl, ?_⟩) ?_ ?_
                        rotate_left
                        ·
                         intro w'
                         go_simp
                         with_reducible rfl
                        rotate_left
                        ·
                         simp only [Act.put, List.setIfInBounds_toArray, List.set_cons_zero, List.set_cons_succ, i64_w, i32_w]
                         rfl
                        refine pure_ (i := 8) (N := some 136) (v := ?_) (a' := ?_) #[true, true, true, true, false, true, true, true, true, false, false, false, false, false] rfl rfl (any_of HT_.out (by kernel_rfl)) (fun _ _ _ h => h) (Or.inl ⟨by rfl, ?_⟩) ?_ ?_
                        rotate_left
                        ·
                         intro w'
                         go_simp
                         with_reducible rfl
                        rotate_left
                        ·
                         simp only [Act.put, List.setIfInBounds_toArray, List.set_cons_zero, List.set_cons_succ, i64_w, i32_w]
                         rfl
                        refine pure_ (i := 11) (N := some 139) (v := ?_) (a' := ?_) #[true, true, true, true, false, true, true, true, true, false, false, true, false, false] rfl rfl (any_of HT_.out (by kernel_rfl)) (fun _ _ _ h => h) (Or.inl ⟨by rfl, ?_⟩) ?_ ?_
                        rotate_left
                        ·
                         intro w'
                         go_simp
                         with_reducible rfl
                        rotate_left
                        ·
                         simp only [Act.put, List.setIfInBounds_toArray, List.set_cons_zero, List.set_cons_succ, i64_w, i32_w]
                         rfl
                        refine take_ (i := 4) (N := some 132) (v := ?_) (a' := ?_) #[true, true, true, true, true, true, true, true, true, false, false, true, false, false] rfl rfl (take_ofW HT_.out HW_.out (by kernel_rfl)) (fun _ _ _ h => h) (Or.inl ⟨by rfl, ?_⟩) hHeld ?_ ?_
                        rotate_left
                        ·
                         rintro w' ⟨s0, s1, s2, s3⟩
                         go_simp
                         with_reducible rfl
                        rotate_left
                        ·
                         simp only [Act.put, List.setIfInBounds_toArray, List.set_cons_zero, List.set_cons_succ, i64_w, i32_w]
                         rfl
                        refine take_ (i := 9) (N := some 137) (v := ?_) (a' := ?_) #[true, true, true, true, true, true, true, true, true, true, false, true, false, false] rfl rfl (take_ofW HT_.out HW_.out (by kernel_rfl)) (fun _ _ _ h => h) (Or.inl ⟨by rfl, ?_⟩) hHeld ?_ ?_
                        rotate_left
                        ·
                         rintro w' ⟨s0, s1, s2, s3⟩
                         go_simp
                         with_reducible rfl
                        rotate_left
                        ·
                         simp only [Act.put, List.setIfInBounds_toArray, List.set_cons_zero, List.set_cons_succ, i64_w, i32_w]
                         rfl
                        refine pure_ (i := 10) (N := some 138) (v := ?_) (a' := ?_) #[true, true, true, true, true, true, true, true, true, true, true, true, false, false] rfl rfl (any_of HT_.out (by kernel_rfl)) (fun _ _ _ h => h) (Or.inl ⟨by rfl, ?_⟩) ?_ ?_
                        rotate_left
                        ·
                         intro w'
                         go_simp
                         with_reducible rfl
                        rotate_left
                        ·
                         simp only [Act.put, List.setIfInBounds_toArray, List.set_cons_zero, List.set_cons_succ, i64_w, i32_w]
                         rfl
                        refine take_ (i := 12) (N := some 140) (v := ?_) (a' := ?_) #[true, true, true, true, true, true, true, true, true, true, true, true, true, false] rfl rfl (take_ofW HT_.out HW_.out (by kernel_rfl)) (fun _ _ _ h => h) (Or.inl ⟨by rfl, ?_⟩) hHeld ?_ ?_
                        rotate_left
                        ·
                         rintro w' ⟨s0, s1, s2, s3⟩
                         go_simp
                         with_reducible rfl
                        rotate_left
                        ·
                         simp only [Act.put, List.setIfInBounds_toArray, List.set_cons_zero, List.set_cons_succ, i64_w, i32_w]
                         rfl
                        refine pure_ (i := 13) (N := some 19) (v := ?_) (a' := ?_) #[true, true, true, true, true, true, true, true, true, true, true, true, true, true] rfl rfl (any_of HT_.out (by kernel_rfl)) (fun _ _ _ h => h) (Or.inl ⟨by rfl, ?_⟩) ?_ ?_
                        rotate_left
                        ·
                         intro w'
                         go_simp
                         with_reducible rfl
                        rotate_left
                        ·
                         simp only [Act.put, List.setIfInBounds_toArray, List.set_cons_zero, List.set_cons_succ, i64_w, i32_w]
                         rfl
                        refine done_ (done_of HT_.out (by kernel_rfl)) ?_
                        have hnb80 := NB110_101.out
                        have hnc80 := NB101_110.out
                        have hnb81 := NB110_125.out
                        have hnc81 := NB125_110.out
                        have hcz82_0 : w79.cell? ⟨gb110, 0, none⟩ = some (.slice (some ad124) t102.length co12) := (blk_cell BK110.out 0).trans rfl
                        have hcz82_1 : w79.cell? ⟨gb110, 1, none⟩ = some (.slice Ao15 t105.length co15) := (blk_cell BK110.out 1).trans rfl
                        have hcz82_2 : w79.cell? ⟨gb110, 2, none⟩ = some (.int .i64 t108) := (blk_cell BK110.out 2).trans rfl
                        have hcz82_3 : w79.cell? ⟨gb110, 3, none⟩ = some (.int .i64 t109) := (blk_cell BK110.out 3).trans rfl
                        have hfz82_0 := blk_frozen BK110.out 0
                        have hfz82_1 := blk_frozen BK110.out 1
                        have hfz82_2 := blk_frozen BK110.out 2
                        have hfz82_3 := blk_frozen BK110.out 3
                        try go_wp2_with (first | ((with_reducible refine gate_callee (f := 14) rfl ?_); refine goesL_ (some 144) rfl rfl Tryd.func14 (by kernel_rfl) rfl #[.agg #[.slice (some ad124) t102.length co12, .slice Ao15 t105.length co15, .int .i64 t108, .int .i64 t109], .int .i64 t127, .int .i64 ((rd_T40 t119 x10_2).f0)] rfl (by (try simp only [List.map_toArray, List.map_cons, List.map_nil]); first | done | rfl | (simp only [List.length_drop, List.length_take]; rfl)) ?_; (with_reducible refine (walkmilllaw05_pulled.calls _ _ t102 _ _ t105 t108 t109 t127 ((rd_T40 t119 x10_2).f0) true _ ?side1 ?side2 ?side3 ?side4 A73.out).mono ?_); (case side1 => repeat (first | exact (Kd.R_reads' HO_111000.out).2.2 | (with_reducible refine Kd.C_alloc ?_ _) | (with_reducible refine Kd.C_drewN ?_ _) | (with_reducible refine Kd.C_drew ?_))); (case side2 => exact (Kd.R_reads' HO_111000.out).2.1); (case side3 => repeat (first | exact (Kd.R_reads' HO_111001.out).2.2 | (with_reducible refine Kd.C_alloc ?_ _) | (with_reducible refine Kd.C_drewN ?_ _) | (with_reducible refine Kd.C_drew ?_))); (case side4 => exact (Kd.R_reads' HO_111001.out).2.1); rintro e w83 ⟨rfl, hb⟩; refine ⟨_, rfl, ?_⟩; have n0_ := Aside0.mk (Kd.R_below (by (with_reducible repeat (first | apply Kd.R_alloc | apply Kd.R_drewN | apply Kd.R_drew)); exact HO_8.out) hb); have n1_ := Aside0.mk (Kd.R_below (by (with_reducible repeat (first | apply Kd.R_alloc | apply Kd.R_drewN | apply Kd.R_drew)); exact HO_111000.out) hb); have n2_ := Aside0.mk (Kd.R_below (by (with_reducible repeat (first | apply Kd.R_alloc | apply Kd.R_drewN | apply Kd.R_drew)); exact HO_111001.out) hb); have n3_ := Aside0.mk (blk_below (g := gb101) (o := .cells #[.slice A0_0 l0_0.length c0_0, .int .u8 a0_1, .int .u8 a0_2, .int .u8 a0_3, .int .u8 a0_4, .int .u8 a0_5, .slice A0_6 l0_6.length c0_6] 26 (0, 0)) (by (with_reducible repeat (first | refine blk_drewN ?_ _ | refine blk_drew ?_ | refine blk_alloc ?_ _)); exact BK101.out) hb); have n4_ := Aside0.mk (blk_below (g := gb110) (o := .cells #[.slice (some ad124) t102.length co12, .slice Ao15 t105.length co15, .int .i64 t108, .int .i64 t109] 32 (0, 0)) (by (with_reducible repeat (first | refine blk_drewN ?_ _ | refine blk_drew ?_ | refine blk_alloc ?_ _)); exact BK110.out) hb); have n5_ := Aside0.mk (blk_below (g := gb125) (o := .cells #[.int .i64 ((rd_T42 t102 x10_2).f0.f0), .int .i64 ((rd_T42 t102 x10_2).f0.f1)] 40 (0, 0)) (by (with_reducible repeat (first | refine blk_drewN ?_ _ | refine blk_drew ?_ | refine blk_alloc ?_ _)); exact BK125.out) hb); have n6_ := Aside0.mk (below_step (by repeat (first | (with_reducible first | exact HB.out | apply below_alloc | apply pw_below_drewN | apply below_drew1 | refine below_set ?_ GE101.out | refine below_set ?_ GE110.out | refine below_set ?_ GE125.out) | exact HB.out)) hb); clear HO_8; clear HO_111000; clear HO_111001; clear BK101; clear BK110; clear BK125; clear HB; have HO_8 := n0_; have HO_111000 := n1_; have HO_111001 := n2_; have BK101 := n3_; have BK110 := n4_; have BK125 := n5_; have HB := n6_; clear n0_ n1_ n2_ n3_ n4_ n5_ n6_; (try clear hb); (try clear hb2); (try clear hk); (try clear hi); have hcz84_0 : w83.cell? ⟨gb110, 0, none⟩ = some (.slice (some ad124) t102.length co12) := (blk_cell BK110.out 0).trans rfl; have hcz84_1 : w83.cell? ⟨gb110, 1, none⟩ = some (.slice Ao15 t105.length co15) := (blk_cell BK110.out 1).trans rfl; have hcz84_2 : w83.cell? ⟨gb110, 2, none⟩ = some (.int .i64 t108) := (blk_cell BK110.out 2).trans rfl; have hcz84_3 : w83.cell? ⟨gb110, 3, none⟩ = some (.int .i64 t109) := (blk_cell BK110.out 3).trans rfl; have hfz84_0 := blk_frozen BK110.out 0; have hfz84_1 := blk_frozen BK110.out 1; have hfz84_2 := blk_frozen BK110.out 2; have hfz84_3 := blk_frozen BK110.out 3; have hnb85 := NB125_101.out; have hnc85 := NB101_125.out; have hcz86_0 : w83.cell? ⟨gb125, 0, none⟩ = some (.int .i64 ((rd_T42 t102 x10_2).f0.f0)) := (blk_cell BK125.out 0).trans rfl; have hcz86_1 : w83.cell? ⟨gb125, 1, none⟩ = some (.int .i64 ((rd_T42 t102 x10_2).f0.f1)) := (blk_cell BK125.out 1).trans rfl; have hfz86_0 := blk_frozen BK125.out 0; have hfz86_1 := blk_frozen BK125.out 1) | (go_at_call 14; (with_reducible refine (walkmilllaw05_pulled.calls _ _ t102 _ _ t105 t108 t109 ((rd_T42 t102 x10_2).f0.f0) ((rd_T40 t119 x10_2).f0) true _ ?side1 ?side2 ?side3 ?side4 A75.out).mono ?_); (case side1 => repeat (first | exact (Kd.R_reads' HO_111000.out).2.2 | (with_reducible refine Kd.C_alloc ?_ _) | (with_reducible refine Kd.C_drewN ?_ _) | (with_reducible refine Kd.C_drew ?_))); (case side2 => exact (Kd.R_reads' HO_111000.out).2.1); (case side3 => repeat (first | exact (Kd.R_reads' HO_111001.out).2.2 | (with_reducible refine Kd.C_alloc ?_ _) | (with_reducible refine Kd.C_drewN ?_ _) | (with_reducible refine Kd.C_drew ?_))); (case side4 => exact (Kd.R_reads' HO_111001.out).2.1); rintro e w87 ⟨rfl, hb⟩; have n0_ := Aside0.mk (Kd.R_below (by (with_reducible repeat (first | apply Kd.R_alloc | apply Kd.R_drewN | apply Kd.R_drew)); exact HO_8.out) hb); have n1_ := Aside0.mk (Kd.R_below (by (with_reducible repeat (first | apply Kd.R_alloc | apply Kd.R_drewN | apply Kd.R_drew)); exact HO_111000.out) hb); have n2_ := Aside0.mk (Kd.R_below (by (with_reducible repeat (first | apply Kd.R_alloc | apply Kd.R_drewN | apply Kd.R_drew)); exact HO_111001.out) hb); have n3_ := Aside0.mk (blk_below (g := gb101) (o := .cells #[.slice A0_0 l0_0.length c0_0, .int .u8 a0_1, .int .u8 a0_2, .int .u8 a0_3, .int .u8 a0_4, .int .u8 a0_5, .slice A0_6 l0_6.length c0_6] 26 (0, 0)) (by (with_reducible repeat (first | refine blk_drewN ?_ _ | refine blk_drew ?_ | refine blk_alloc ?_ _)); exact BK101.out) hb); have n4_ := Aside0.mk (blk_below (g := gb110) (o := .cells #[.slice (some ad124) t102.length co12, .slice Ao15 t105.length co15, .int .i64 t108, .int .i64 t109] 32 (0, 0)) (by (with_reducible repeat (first | refine blk_drewN ?_ _ | refine blk_drew ?_ | refine blk_alloc ?_ _)); exact BK110.out) hb); have n5_ := Aside0.mk (blk_below (g := gb125) (o := .cells #[.int .i64 ((rd_T42 t102 x10_2).f0.f0), .int .i64 ((rd_T42 t102 x10_2).f0.f1)] 40 (0, 0)) (by (with_reducible repeat (first | refine blk_drewN ?_ _ | refine blk_drew ?_ | refine blk_alloc ?_ _)); exact BK125.out) hb); have n6_ := Aside0.mk (below_step (by repeat (first | (with_reducible first | exact HB.out | apply below_alloc | apply pw_below_drewN | apply below_drew1 | refine below_set ?_ GE101.out | refine below_set ?_ GE110.out | refine below_set ?_ GE125.out) | exact HB.out)) hb); clear HO_8; clear HO_111000; clear HO_111001; clear BK101; clear BK110; clear BK125; clear HB; have HO_8 := n0_; have HO_111000 := n1_; have HO_111001 := n2_; have BK101 := n3_; have BK110 := n4_; have BK125 := n5_; have HB := n6_; clear n0_ n1_ n2_ n3_ n4_ n5_ n6_; (try clear hb); (try clear hb2); (try clear hk); (try clear hi); have hcz88_0 : w87.cell? ⟨gb110, 0, none⟩ = some (.slice (some ad124) t102.length co12) := (blk_cell BK110.out 0).trans rfl; have hcz88_1 : w87.cell? ⟨gb110, 1, none⟩ = some (.slice Ao15 t105.length co15) := (blk_cell BK110.out 1).trans rfl; have hcz88_2 : w87.cell? ⟨gb110, 2, none⟩ = some (.int .i64 t108) := (blk_cell BK110.out 2).trans rfl; have hcz88_3 : w87.cell? ⟨gb110, 3, none⟩ = some (.int .i64 t109) := (blk_cell BK110.out 3).trans rfl; have hfz88_0 := blk_frozen BK110.out 0; have hfz88_1 := blk_frozen BK110.out 1; have hfz88_2 := blk_frozen BK110.out 2; have hfz88_3 := blk_frozen BK110.out 3; have hcz89_0 : w87.cell? ⟨gb125, 0, none⟩ = some (.int .i64 ((rd_T42 t102 x10_2).f0.f0)) := (blk_cell BK125.out 0).trans rfl; have hcz89_1 : w87.cell? ⟨gb125, 1, none⟩ = some (.int .i64 ((rd_T42 t102 x10_2).f0.f1)) := (blk_cell BK125.out 1).trans rfl; have hfz89_0 := blk_frozen BK125.out 0; have hfz89_1 := blk_frozen BK125.out 1) | (go_at_call 14; (with_reducible refine (walkmilllaw05_pulled.calls _ _ t102 _ _ t105 t108 t109 ((rd_T42 t102 x10_2).f0.f1) ((rd_T40 t119 x10_2).f0) true _ ?side1 ?side2 ?side3 ?side4 A77.out).mono ?_); (case side1 => repeat (first | exact (Kd.R_reads' HO_111000.out).2.2 | (with_reducible refine Kd.C_alloc ?_ _) | (with_reducible refine Kd.C_drewN ?_ _) | (with_reducible refine Kd.C_drew ?_))); (case side2 => exact (Kd.R_reads' HO_111000.out).2.1); (case side3 => repeat (first | exact (Kd.R_reads' HO_111001.out).2.2 | (with_reducible refine Kd.C_alloc ?_ _) | (with_reducible refine Kd.C_drewN ?_ _) | (with_reducible refine Kd.C_drew ?_))); (case side4 => exact (Kd.R_reads' HO_111001.out).2.1); rintro e w90 ⟨rfl, hb⟩; have n0_ := Aside0.mk (Kd.R_below (by (with_reducible repeat (first | apply Kd.R_alloc | apply Kd.R_drewN | apply Kd.R_drew)); exact HO_8.out) hb); have n1_ := Aside0.mk (Kd.R_below (by (with_reducible repeat (first | apply Kd.R_alloc | apply Kd.R_drewN | apply Kd.R_drew)); exact HO_111000.out) hb); have n2_ := Aside0.mk (Kd.R_below (by (with_reducible repeat (first | apply Kd.R_alloc | apply Kd.R_drewN | apply Kd.R_drew)); exact HO_111001.out) hb); have n3_ := Aside0.mk (blk_below (g := gb101) (o := .cells #[.slice A0_0 l0_0.length c0_0, .int .u8 a0_1, .int .u8 a0_2, .int .u8 a0_3, .int .u8 a0_4, .int .u8 a0_5, .slice A0_6 l0_6.length c0_6] 26 (0, 0)) (by (with_reducible repeat (first | refine blk_drewN ?_ _ | refine blk_drew ?_ | refine blk_alloc ?_ _)); exact BK101.out) hb); have n4_ := Aside0.mk (blk_below (g := gb110) (o := .cells #[.slice (some ad124) t102.length co12, .slice Ao15 t105.length co15, .int .i64 t108, .int .i64 t109] 32 (0, 0)) (by (with_reducible repeat (first | refine blk_drewN ?_ _ | refine blk_drew ?_ | refine blk_alloc ?_ _)); exact BK110.out) hb); have n5_ := Aside0.mk (blk_below (g := gb125) (o := .cells #[.int .i64 ((rd_T42 t102 x10_2).f0.f0), .int .i64 ((rd_T42 t102 x10_2).f0.f1)] 40 (0, 0)) (by (with_reducible repeat (first | refine blk_drewN ?_ _ | refine blk_drew ?_ | refine blk_alloc ?_ _)); exact BK125.out) hb); have n6_ := Aside0.mk (below_step (by repeat (first | (with_reducible first | exact HB.out | apply below_alloc | apply pw_below_drewN | apply below_drew1 | refine below_set ?_ GE101.out | refine below_set ?_ GE110.out | refine below_set ?_ GE125.out) | exact HB.out)) hb); clear HO_8; clear HO_111000; clear HO_111001; clear BK101; clear BK110; clear BK125; clear HB; have HO_8 := n0_; have HO_111000 := n1_; have HO_111001 := n2_; have BK101 := n3_; have BK110 := n4_; have BK125 := n5_; have HB := n6_; clear n0_ n1_ n2_ n3_ n4_ n5_ n6_; (try clear hb); (try clear hb2); (try clear hk); (try clear hi)))
                        go_roundg k4
                        case measure => have := HJ6.out; have := HK2.out; have := HJ31.out; have := HK4.out; omega
                        case rel => exact ⟨(wrap64 (x18_4 + 1)), (by first | rfl | (simp; done) | (simp [*]; done)), H', ⟨by have := HJ6.out; have := HK2.out; have := HJ31.out; have := HK4.out; omega⟩, ⟨by (with_reducible repeat (first | apply Kd.R_alloc | apply Kd.R_drewN | apply Kd.R_drew)); exact HO_8.out⟩, ⟨by (with_reducible repeat (first | apply Kd.R_alloc | apply Kd.R_drewN | apply Kd.R_drew)); exact HO_111000.out⟩, ⟨by (with_reducible repeat (first | apply Kd.R_alloc | apply Kd.R_drewN | apply Kd.R_drew)); exact HO_111001.out⟩, ⟨by (with_reducible repeat (first | refine blk_drewN ?_ _ | refine blk_drew ?_ | refine blk_alloc ?_ _)); exact BK101.out⟩, ⟨by (with_reducible repeat (first | refine blk_drewN ?_ _ | refine blk_drew ?_ | refine blk_alloc ?_ _)); exact BK110.out⟩, ⟨by (with_reducible repeat (first | refine blk_drewN ?_ _ | refine blk_drew ?_ | refine blk_alloc ?_ _)); exact BK125.out⟩, ⟨by repeat (first | (with_reducible first | exact HB.out | apply below_alloc | apply pw_below_drewN | apply below_drew1 | refine below_set ?_ GE101.out | refine below_set ?_ GE110.out | refine below_set ?_ GE125.out) | exact HB.out)⟩⟩
                       ·
                        replace c78 := Bool.eq_false_iff.mpr c78
                        subst c78
                        have H1 : (some false) = some r := by rw [if_neg (show ¬ (false = true) by decide)] at H; exact H
                        clear H
                        have H := H1
                        clear H1
                        exact absurd ((Option.some.inj H).trans HRT.out) (by simp)
                      ·
                       replace c76 := Bool.eq_false_iff.mpr c76
                       subst c76
                       have H1 : (some false) = some r := by rw [if_neg (show ¬ (false = true) by decide)] at H; exact H
                       clear H
                       have H := H1
                       clear H1
                       exact absurd ((Option.some.inj H).trans HRT.out) (by simp)
                     ·
                      replace c74 := Bool.eq_false_iff.mpr c74
                      subst c74
                      have H1 : (some false) = some r := by rw [if_neg (show ¬ (false = true) by decide)] at H; exact H
                      clear H
                      have H := H1
                      clear H1
                      exact absurd ((Option.some.inj H).trans HRT.out) (by simp)
                    ·
                     rw [if_neg c72] at H
                     have c72b0 : (x18_4 == 0) = false := beq_eq_false_iff_ne.mpr c72
                     have c72b1 : (x18_4 != 0) = true := bne_iff_ne.mpr c72
                     by_cases c91 : x18_4 = 1
                     ·
                      rw [if_pos c91] at H
                      have c91b0 : (x18_4 == 1) = true := beq_iff_eq.mpr c91
                      have c91b1 : (x18_4 != 1) = false := bne_eq_false_iff_eq.mpr c91
                      clear c91
                      replace H := Option.bind_eq_some_iff.mp H
                      obtain ⟨t150, A920, H⟩ := H
                      replace H : (if t150 = true then ((walkmilllaw05_pulled.f t102 t105 t108 t109 ((rd_T42 t102 x10_2).f0.f0) ((rd_T40 t119 x10_2).f1)).bind fun t151 => (if t151 = true then ((walkmilllaw05_pulled.f t102 t105 t108 t109 ((rd_T42 t102 x10_2).f0.f1) ((rd_T40 t119 x10_2).f1)).bind fun t152 => (if t152 = true then (walkmilllaw05_TenterNever.l1 k4 l1 a2 t119 x10_2 t127 (wrap64 (x18_4 + 1)) t102 t105 t108 t109 ((rd_T42 t102 x10_2).f0.f0) ((rd_T42 t102 x10_2).f0.f1)) else (some false))) else (some false))) else (some false)) = some r := H
                      have A92 := Aside0.mk A920
                      clear A920
                      by_cases c93 : t150 = true
                      ·
                       subst c93
                       have H1 : ((walkmilllaw05_pulled.f t102 t105 t108 t109 ((rd_T42 t102 x10_2).f0.f0) ((rd_T40 t119 x10_2).f1)).bind fun t151 => (if t151 = true then ((walkmilllaw05_pulled.f t102 t105 t108 t109 ((rd_T42 t102 x10_2).f0.f1) ((rd_T40 t119 x10_2).f1)).bind fun t152 => (if t152 = true then (walkmilllaw05_TenterNever.l1 k4 l1 a2 t119 x10_2 t127 (wrap64 (x18_4 + 1)) t102 t105 t108 t109 ((rd_T42 t102 x10_2).f0.f0) ((rd_T42 t102 x10_2).f0.f1)) else (some false))) else (some false))) = some r := by rw [if_pos rfl] at H; exact H
                       clear H
                       have H := H1
                       clear H1
                       replace H := Option.bind_eq_some_iff.mp H
                       obtain ⟨t151, A940, H⟩ := H
                       replace H : (if t151 = true then ((walkmilllaw05_pulled.f t102 t105 t108 t109 ((rd_T42 t102 x10_2).f0.f1) ((rd_T40 t119 x10_2).f1)).bind fun t152 => (if t152 = true then (walkmilllaw05_TenterNever.l1 k4 l1 a2 t119 x10_2 t127 (wrap64 (x18_4 + 1)) t102 t105 t108 t109 ((rd_T42 t102 x10_2).f0.f0) ((rd_T42 t102 x10_2).f0.f1)) else (some false))) else (some false)) = some r := H
                       have A94 := Aside0.mk A940
                       clear A940
                       by_cases c95 : t151 = true
                       ·
                        subst c95
                        have H1 : ((walkmilllaw05_pulled.f t102 t105 t108 t109 ((rd_T42 t102 x10_2).f0.f1) ((rd_T40 t119 x10_2).f1)).bind fun t152 => (if t152 = true then (walkmilllaw05_TenterNever.l1 k4 l1 a2 t119 x10_2 t127 (wrap64 (x18_4 + 1)) t102 t105 t108 t109 ((rd_T42 t102 x10_2).f0.f0) ((rd_T42 t102 x10_2).f0.f1)) else (some false))) = some r := by rw [if_pos rfl] at H; exact H
                        clear H
                        have H := H1
                        clear H1
                        replace H := Option.bind_eq_some_iff.mp H
                        obtain ⟨t152, A960, H⟩ := H
                        replace H : (if t152 = true then (walkmilllaw05_TenterNever.l1 k4 l1 a2 t119 x10_2 t127 (wrap64 (x18_4 + 1)) t102 t105 t108 t109 ((rd_T42 t102 x10_2).f0.f0) ((rd_T42 t102 x10_2).f0.f1)) else (some false)) = some r := H
                        have A96 := Aside0.mk A960
                        clear A960
                        by_cases c97 : t152 = true
                        ·
                         subst c97
                         have H1 : (walkmilllaw05_TenterNever.l1 k4 l1 a2 t119 x10_2 t127 (wrap64 (x18_4 + 1)) t102 t105 t108 t109 ((rd_T42 t102 x10_2).f0.f0) ((rd_T42 t102 x10_2).f0.f1)) = some r := by rw [if_pos rfl] at H; exact H
                         clear H
                         have H := H1
                         clear H1
                         have H' := Aside0.mk H
                         clear H
                         try go_wp2
                         have n0_ := Aside0.mk (Kd.R_drew HO_8.out)
                         have n1_ := Aside0.mk (Kd.R_drew HO_111000.out)
                         have n2_ := Aside0.mk (Kd.R_drew HO_111001.out)
                         have n3_ := Aside0.mk (blk_drew BK101.out)
                         have n4_ := Aside0.mk (blk_drew BK110.out)
                         have n5_ := Aside0.mk (blk_drew BK125.out)
                         have n6_ := Aside0.mk (below_drew1 HB.out)
                         clear HO_8
                         clear HO_111000
                         clear HO_111001
                         clear BK101
                         clear BK110
                         clear BK125
                         clear HB
                         have HO_8 := n0_
                         have HO_111000 := n1_
                         have HO_111001 := n2_
                         have BK101 := n3_
                         have BK110 := n4_
                         have BK125 := n5_
                         have HB := n6_
                         clear n0_ n1_ n2_ n3_ n4_ n5_ n6_
                         have p145 : 0 ≤ (x10_2 : Int) := of_decide_eq_true (by first | (with_reducible assumption) | assumption)
                         have q145 : x10_2 < (t119.length : Int) := of_decide_eq_true (by first | (with_reducible assumption) | assumption)
                         obtain ⟨ad145, e145, hx145_0, hx145_1⟩ := at_T40 (Kd.R_reads' HO_8.out).2.2 x10_2 p145 q145
                         obtain rfl : ad139 = ad145 := (by injection e145)
                         replace p145 := eq_true p145
                         replace q145 := eq_true q145
                         have p146 : 0 ≤ (x10_2 : Int) := of_decide_eq_true (by first | (with_reducible assumption) | assumption)
                         have q146 : x10_2 < (t119.length : Int) := of_decide_eq_true (by first | (with_reducible assumption) | assumption)
                         obtain ⟨ad146, e146, hx146_0, hx146_1⟩ := at_T40 (Kd.R_reads' HO_8.out).2.2 x10_2 p146 q146
                         obtain rfl : ad139 = ad146 := (by injection e146)
                         replace p146 := eq_true p146
                         replace q146 := eq_true q146
                         refine start_ (n := 14) (S := fun w' => w'.cell? (ad139.add ((x10_2).toNat * 2)) = some (.int .i64 ((rd_T40 t119 x10_2).f0)) ∧ w'.cell? ⟨(ad139.add ((x10_2).toNat * 2)).block, (ad139.add ((x10_2).toNat * 2)).off + 1, none⟩ = some (.int .i64 ((rd_T40 t119 x10_2).f1)) ∧ w'.cell? (ad139.add ((x10_2).toNat * 2)) = some (.int .i64 ((rd_T40 t119 x10_2).f0)) ∧ w'.cell? ⟨(ad139.add ((x10_2).toNat * 2)).block, (ad139.add ((x10_2).toNat * 2)).off + 1, none⟩ = some (.int .i64 ((rd_T40 t119 x10_2).f1))) (ds := []) #[false, false, false, false, false, false, false, false, false, false, false, false, false, false] (by kernel_rfl) rfl rfl ⟨hx145_0, hx145_1, hx146_0, hx146_1⟩ (fun hHeld => ?_); refine with_tabW walkmilllaw05_TenterNever.tab20 walkmilllaw05_TenterNever.bits20 (fun HT_ HW_ => ?_)
                         generalize wr.drew = w98 at HO_8 HO_111000 HO_111001 BK101 BK110 BK125 HB hx145_0 hx145_1 hx146_0 hx146_1 hHeld ⊢
                         refine pure_ (i := 0) (N := some 128) (v := ?_) (a' := ?_) #[true, false, false, false, false, false, false, false, false, false, false, false, false, false] rfl rfl (any_of HT_.out (by kernel_rfl)) (fun _ _ _ h => h) (Or.inl ⟨by rfl, ?_⟩) ?_ ?_
                         rotate_left
                         ·
                          intro w'
                          go_simp
                          with_reducible rfl
                         rotate_left
                         ·
                          simp only [Act.put, List.setIfInBounds_toArray, List.set_cons_zero, List.set_cons_succ, i64_w, i32_w]
                          rfl
                         refine pure_ (i := 1) (N := some 129) (v := ?_) (a' := ?_) #[true, true, false, false, false, false, false, false, false, false, false, false, false, false] rfl rfl (any_of HT_.out (by kernel_rfl)) (fun _ _ _ h => h) (Or.inl ⟨by rfl, ?_⟩) ?_ ?_
                         rotate_left
                         ·
                          intro w'
                          go_simp
                          with_reducible rfl
                         rotate_left
                         ·
                          simp only [Act.put, List.setIfInBounds_toArray, List.set_cons_zero, List.set_cons_succ, i64_w, i32_w]
                          rfl
                         refine pure_ (i := 2) (N := some 130) (v := ?_) (a' := ?_) #[true, true, true, false, false, false, false, false, false, false, false, false, false, false] rfl rfl (any_of HT_.out (by kernel_rfl)) (fun _ _ _ h => h) (Or.inl ⟨by rfl, ?_⟩) ?_ ?_
                         rotate_left
                         ·
                          intro w'
                          go_simp
                          with_reducible rfl
                         rotate_left
                         ·
                          simp only [Act.put, List.setIfInBounds_toArray, List.set_cons_zero, List.set_cons_succ, i64_w, i32_w]
                          rfl
                         refine pure_ (i := 3) (N := some 131) (v := ?_) (a' := ?_) #[true, true, true, true, false, false, false, false, false, false, false, false, false, false] rfl rfl (any_of HT_.out (by kernel_rfl)) (fun _ _ _ h => h) (Or.inl ⟨by rfl, ?_⟩) ?_ ?_
                         rotate_left
                         ·
                          intro w'
                          go_simp
                          with_reducible rfl
                         rotate_left
                         ·
                          simp only [Act.put, List.setIfInBounds_toArray, List.set_cons_zero, List.set_cons_succ, i64_w, i32_w]
                          rfl
                         refine pure_ (i := 5) (N := some 133) (v := ?_) (a' := ?_) #[true, true, true, true, false, true, false, false, false, false, false, false, false, false] rfl rfl (any_of HT_.out (by kernel_rfl)) (fun _ _ _ h => h) (Or.inl ⟨by rfl, ?_⟩) ?_ ?_
                         rotate_left
                         ·
                          intro w'
                          go_simp
                          with_reducible rfl
                         rotate_left
                         ·
                          simp only [Act.put, List.setIfInBounds_toArray, List.set_cons_zero, List.set_cons_succ, i64_w, i32_w]
                          rfl
                         refine pure_ (i := 6) (N := some 134) (v := ?_) (a' := ?_) #[true, true, true, true, false, true, true, false, false, false, false, false, false, false] rfl rfl (any_of HT_.out (by kernel_rfl)) (fun _ _ _ h => h) (Or.inl ⟨by rfl, ?_⟩) ?_ ?_
                         rotate_left
                         ·
                          intro w'
                          go_simp
                          with_reducible rfl
                         rotate_left
                         ·
                          simp only [Act.put, List.setIfInBounds_toArray, List.set_cons_zero, List.set_cons_succ, i64_w, i32_w]
                          rfl
                         refine pure_ (i := 7) (N := some 135) (v := ?_) (a' := ?_) #[true, true, true, true, false, true, true, true, false, false, false, false, false, false] rfl rfl (any_of HT_.out (by kernel_rfl)) (fun _ _ _ h => h) (Or.inl ⟨by rfl, ?_⟩) ?_ ?_
                         rotate_left
                         ·
                          intro w'
                          go_simp
                          with_reducible rfl
                         rotate_left
                         ·
                          simp only [Act.put, List.setIfInBounds_toArray, List.set_cons_zero, List.set_cons_succ, i64_w, i32_w]
                          rfl
                         refine pure_ (i := 8) (N := some 136) (v := ?_) (a' := ?_) #[true, true, true, true, false, true, true, true, true, false, false, false, false, false] rfl rfl (any_of HT_.out (by kernel_rfl)) (fun _ _ _ h => h) (Or.inl ⟨by rfl, ?_⟩) ?_ ?_
                         rotate_left
                         ·
                          intro w'
                          go_simp
                          with_reducible rfl
                         rotate_left
                         ·
                          simp only [Act.put, List.setIfInBounds_toArray, List.set_cons_zero, List.set_cons_succ, i64_w, i32_w]
                          rfl
                         refine pure_ (i := 11) (N := some 139) (v := ?_) (a' := ?_) #[true, true, true, true, false, true, true, true, true, false, false, true, false, false] rfl rfl (any_of HT_.out (by kernel_rfl)) (fun _ _ _ h => h) (Or.inl ⟨by rfl, ?_⟩) ?_ ?_
                         rotate_left
                         ·
                          intro w'
                          go_simp
                          with_reducible rfl
                         rotate_left
                         ·
                          simp only [Act.put, List.setIfInBounds_toArray, List.set_cons_zero, List.set_cons_succ, i64_w, i32_w]
                          rfl
                         refine take_ (i := 4) (N := some 132) (v := ?_) (a' := ?_) #[true, true, true, true, true, true, true, true, true, false, false, true, false, false] rfl rfl (take_ofW HT_.out HW_.out (by kernel_rfl)) (fun _ _ _ h => h) (Or.inl ⟨by rfl, ?_⟩) hHeld ?_ ?_
                         rotate_left
                         ·
                          rintro w' ⟨s0, s1, s2, s3⟩
                          go_simp
                          with_reducible rfl
                         rotate_left
                         ·
                          simp only [Act.put, List.setIfInBounds_toArray, List.set_cons_zero, List.set_cons_succ, i64_w, i32_w]
                          rfl
                         refine take_ (i := 9) (N := some 137) (v := ?_) (a' := ?_) #[true, true, true, true, true, true, true, true, true, true, false, true, false, false] rfl rfl (take_ofW HT_.out HW_.out (by kernel_rfl)) (fun _ _ _ h => h) (Or.inl ⟨by rfl, ?_⟩) hHeld ?_ ?_
                         rotate_left
                         ·
                          rintro w' ⟨s0, s1, s2, s3⟩
                          go_simp
                          with_reducible rfl
                         rotate_left
                         ·
                          simp only [Act.put, List.setIfInBounds_toArray, List.set_cons_zero, List.set_cons_succ, i64_w, i32_w]
                          rfl
                         refine pure_ (i := 10) (N := some 138) (v := ?_) (a' := ?_) #[true, true, true, true, true, true, true, true, true, true, true, true, false, false] rfl rfl (any_of HT_.out (by kernel_rfl)) (fun _ _ _ h => h) (Or.inl ⟨by rfl, ?_⟩) ?_ ?_
                         rotate_left
                         ·
                          intro w'
                          go_simp
                          with_reducible rfl
                         rotate_left
                         ·
                          simp only [Act.put, List.setIfInBounds_toArray, List.set_cons_zero, List.set_cons_succ, i64_w, i32_w]
                          rfl
                         refine take_ (i := 12) (N := some 140) (v := ?_) (a' := ?_) #[true, true, true, true, true, true, true, true, true, true, true, true, true, false] rfl rfl (take_ofW HT_.out HW_.out (by kernel_rfl)) (fun _ _ _ h => h) (Or.inl ⟨by rfl, ?_⟩) hHeld ?_ ?_
                         rotate_left
                         ·
                          rintro w' ⟨s0, s1, s2, s3⟩
                          go_simp
                          with_reducible rfl
                         rotate_left
                         ·
                          simp only [Act.put, List.setIfInBounds_toArray, List.set_cons_zero, List.set_cons_succ, i64_w, i32_w]
                          rfl
                         refine pure_ (i := 13) (N := some 19) (v := ?_) (a' := ?_) #[true, true, true, true, true, true, true, true, true, true, true, true, true, true] rfl rfl (any_of HT_.out (by kernel_rfl)) (fun _ _ _ h => h) (Or.inl ⟨by rfl, ?_⟩) ?_ ?_
                         rotate_left
                         ·
                          intro w'
                          go_simp
                          with_reducible rfl
                         rotate_left
                         ·
                          simp only [Act.put, List.setIfInBounds_toArray, List.set_cons_zero, List.set_cons_succ, i64_w, i32_w]
                          rfl
                         refine done_ (done_of HT_.out (by kernel_rfl)) ?_
                         have hnb99 := NB110_101.out
                         have hnc99 := NB101_110.out
                         have hnb100 := NB110_125.out
                         have hnc100 := NB125_110.out
                         have hcz101_0 : w98.cell? ⟨gb110, 0, none⟩ = some (.slice (some ad124) t102.length co12) := (blk_cell BK110.out 0).trans rfl
                         have hcz101_1 : w98.cell? ⟨gb110, 1, none⟩ = some (.slice Ao15 t105.length co15) := (blk_cell BK110.out 1).trans rfl
                         have hcz101_2 : w98.cell? ⟨gb110, 2, none⟩ = some (.int .i64 t108) := (blk_cell BK110.out 2).trans rfl
                         have hcz101_3 : w98.cell? ⟨gb110, 3, none⟩ = some (.int .i64 t109) := (blk_cell BK110.out 3).trans rfl
                         have hfz101_0 := blk_frozen BK110.out 0
                         have hfz101_1 := blk_frozen BK110.out 1
                         have hfz101_2 := blk_frozen BK110.out 2
                         have hfz101_3 := blk_frozen BK110.out 3
                         try go_wp2_with (first | ((with_reducible refine gate_callee (f := 14) rfl ?_); refine goesL_ (some 144) rfl rfl Tryd.func14 (by kernel_rfl) rfl #[.agg #[.slice (some ad124) t102.length co12, .slice Ao15 t105.length co15, .int .i64 t108, .int .i64 t109], .int .i64 t127, .int .i64 ((rd_T40 t119 x10_2).f1)] rfl (by (try simp only [List.map_toArray, List.map_cons, List.map_nil]); first | done | rfl | (simp only [List.length_drop, List.length_take]; rfl)) ?_; (with_reducible refine (walkmilllaw05_pulled.calls _ _ t102 _ _ t105 t108 t109 t127 ((rd_T40 t119 x10_2).f1) true _ ?side1 ?side2 ?side3 ?side4 A92.out).mono ?_); (case side1 => repeat (first | exact (Kd.R_reads' HO_111000.out).2.2 | (with_reducible refine Kd.C_alloc ?_ _) | (with_reducible refine Kd.C_drewN ?_ _) | (with_reducible refine Kd.C_drew ?_))); (case side2 => exact (Kd.R_reads' HO_111000.out).2.1); (case side3 => repeat (first | exact (Kd.R_reads' HO_111001.out).2.2 | (with_reducible refine Kd.C_alloc ?_ _) | (with_reducible refine Kd.C_drewN ?_ _) | (with_reducible refine Kd.C_drew ?_))); (case side4 => exact (Kd.R_reads' HO_111001.out).2.1); rintro e w102 ⟨rfl, hb⟩; refine ⟨_, rfl, ?_⟩; have n0_ := Aside0.mk (Kd.R_below (by (with_reducible repeat (first | apply Kd.R_alloc | apply Kd.R_drewN | apply Kd.R_drew)); exact HO_8.out) hb); have n1_ := Aside0.mk (Kd.R_below (by (with_reducible repeat (first | apply Kd.R_alloc | apply Kd.R_drewN | apply Kd.R_drew)); exact HO_111000.out) hb); have n2_ := Aside0.mk (Kd.R_below (by (with_reducible repeat (first | apply Kd.R_alloc | apply Kd.R_drewN | apply Kd.R_drew)); exact HO_111001.out) hb); have n3_ := Aside0.mk (blk_below (g := gb101) (o := .cells #[.slice A0_0 l0_0.length c0_0, .int .u8 a0_1, .int .u8 a0_2, .int .u8 a0_3, .int .u8 a0_4, .int .u8 a0_5, .slice A0_6 l0_6.length c0_6] 26 (0, 0)) (by (with_reducible repeat (first | refine blk_drewN ?_ _ | refine blk_drew ?_ | refine blk_alloc ?_ _)); exact BK101.out) hb); have n4_ := Aside0.mk (blk_below (g := gb110) (o := .cells #[.slice (some ad124) t102.length co12, .slice Ao15 t105.length co15, .int .i64 t108, .int .i64 t109] 32 (0, 0)) (by (with_reducible repeat (first | refine blk_drewN ?_ _ | refine blk_drew ?_ | refine blk_alloc ?_ _)); exact BK110.out) hb); have n5_ := Aside0.mk (blk_below (g := gb125) (o := .cells #[.int .i64 ((rd_T42 t102 x10_2).f0.f0), .int .i64 ((rd_T42 t102 x10_2).f0.f1)] 40 (0, 0)) (by (with_reducible repeat (first | refine blk_drewN ?_ _ | refine blk_drew ?_ | refine blk_alloc ?_ _)); exact BK125.out) hb); have n6_ := Aside0.mk (below_step (by repeat (first | (with_reducible first | exact HB.out | apply below_alloc | apply pw_below_drewN | apply below_drew1 | refine below_set ?_ GE101.out | refine below_set ?_ GE110.out | refine below_set ?_ GE125.out) | exact HB.out)) hb); clear HO_8; clear HO_111000; clear HO_111001; clear BK101; clear BK110; clear BK125; clear HB; have HO_8 := n0_; have HO_111000 := n1_; have HO_111001 := n2_; have BK101 := n3_; have BK110 := n4_; have BK125 := n5_; have HB := n6_; clear n0_ n1_ n2_ n3_ n4_ n5_ n6_; (try clear hb); (try clear hb2); (try clear hk); (try clear hi); have hcz103_0 : w102.cell? ⟨gb110, 0, none⟩ = some (.slice (some ad124) t102.length co12) := (blk_cell BK110.out 0).trans rfl; have hcz103_1 : w102.cell? ⟨gb110, 1, none⟩ = some (.slice Ao15 t105.length co15) := (blk_cell BK110.out 1).trans rfl; have hcz103_2 : w102.cell? ⟨gb110, 2, none⟩ = some (.int .i64 t108) := (blk_cell BK110.out 2).trans rfl; have hcz103_3 : w102.cell? ⟨gb110, 3, none⟩ = some (.int .i64 t109) := (blk_cell BK110.out 3).trans rfl; have hfz103_0 := blk_frozen BK110.out 0; have hfz103_1 := blk_frozen BK110.out 1; have hfz103_2 := blk_frozen BK110.out 2; have hfz103_3 := blk_frozen BK110.out 3; have hnb104 := NB125_101.out; have hnc104 := NB101_125.out; have hcz105_0 : w102.cell? ⟨gb125, 0, none⟩ = some (.int .i64 ((rd_T42 t102 x10_2).f0.f0)) := (blk_cell BK125.out 0).trans rfl; have hcz105_1 : w102.cell? ⟨gb125, 1, none⟩ = some (.int .i64 ((rd_T42 t102 x10_2).f0.f1)) := (blk_cell BK125.out 1).trans rfl; have hfz105_0 := blk_frozen BK125.out 0; have hfz105_1 := blk_frozen BK125.out 1) | (go_at_call 14; (with_reducible refine (walkmilllaw05_pulled.calls _ _ t102 _ _ t105 t108 t109 ((rd_T42 t102 x10_2).f0.f0) ((rd_T40 t119 x10_2).f1) true _ ?side1 ?side2 ?side3 ?side4 A94.out).mono ?_); (case side1 => repeat (first | exact (Kd.R_reads' HO_111000.out).2.2 | (with_reducible refine Kd.C_alloc ?_ _) | (with_reducible refine Kd.C_drewN ?_ _) | (with_reducible refine Kd.C_drew ?_))); (case side2 => exact (Kd.R_reads' HO_111000.out).2.1); (case side3 => repeat (first | exact (Kd.R_reads' HO_111001.out).2.2 | (with_reducible refine Kd.C_alloc ?_ _) | (with_reducible refine Kd.C_drewN ?_ _) | (with_reducible refine Kd.C_drew ?_))); (case side4 => exact (Kd.R_reads' HO_111001.out).2.1); rintro e w106 ⟨rfl, hb⟩; have n0_ := Aside0.mk (Kd.R_below (by (with_reducible repeat (first | apply Kd.R_alloc | apply Kd.R_drewN | apply Kd.R_drew)); exact HO_8.out) hb); have n1_ := Aside0.mk (Kd.R_below (by (with_reducible repeat (first | apply Kd.R_alloc | apply Kd.R_drewN | apply Kd.R_drew)); exact HO_111000.out) hb); have n2_ := Aside0.mk (Kd.R_below (by (with_reducible repeat (first | apply Kd.R_alloc | apply Kd.R_drewN | apply Kd.R_drew)); exact HO_111001.out) hb); have n3_ := Aside0.mk (blk_below (g := gb101) (o := .cells #[.slice A0_0 l0_0.length c0_0, .int .u8 a0_1, .int .u8 a0_2, .int .u8 a0_3, .int .u8 a0_4, .int .u8 a0_5, .slice A0_6 l0_6.length c0_6] 26 (0, 0)) (by (with_reducible repeat (first | refine blk_drewN ?_ _ | refine blk_drew ?_ | refine blk_alloc ?_ _)); exact BK101.out) hb); have n4_ := Aside0.mk (blk_below (g := gb110) (o := .cells #[.slice (some ad124) t102.length co12, .slice Ao15 t105.length co15, .int .i64 t108, .int .i64 t109] 32 (0, 0)) (by (with_reducible repeat (first | refine blk_drewN ?_ _ | refine blk_drew ?_ | refine blk_alloc ?_ _)); exact BK110.out) hb); have n5_ := Aside0.mk (blk_below (g := gb125) (o := .cells #[.int .i64 ((rd_T42 t102 x10_2).f0.f0), .int .i64 ((rd_T42 t102 x10_2).f0.f1)] 40 (0, 0)) (by (with_reducible repeat (first | refine blk_drewN ?_ _ | refine blk_drew ?_ | refine blk_alloc ?_ _)); exact BK125.out) hb); have n6_ := Aside0.mk (below_step (by repeat (first | (with_reducible first | exact HB.out | apply below_alloc | apply pw_below_drewN | apply below_drew1 | refine below_set ?_ GE101.out | refine below_set ?_ GE110.out | refine below_set ?_ GE125.out) | exact HB.out)) hb); clear HO_8; clear HO_111000; clear HO_111001; clear BK101; clear BK110; clear BK125; clear HB; have HO_8 := n0_; have HO_111000 := n1_; have HO_111001 := n2_; have BK101 := n3_; have BK110 := n4_; have BK125 := n5_; have HB := n6_; clear n0_ n1_ n2_ n3_ n4_ n5_ n6_; (try clear hb); (try clear hb2); (try clear hk); (try clear hi); have hcz107_0 : w106.cell? ⟨gb110, 0, none⟩ = some (.slice (some ad124) t102.length co12) := (blk_cell BK110.out 0).trans rfl; have hcz107_1 : w106.cell? ⟨gb110, 1, none⟩ = some (.slice Ao15 t105.length co15) := (blk_cell BK110.out 1).trans rfl; have hcz107_2 : w106.cell? ⟨gb110, 2, none⟩ = some (.int .i64 t108) := (blk_cell BK110.out 2).trans rfl; have hcz107_3 : w106.cell? ⟨gb110, 3, none⟩ = some (.int .i64 t109) := (blk_cell BK110.out 3).trans rfl; have hfz107_0 := blk_frozen BK110.out 0; have hfz107_1 := blk_frozen BK110.out 1; have hfz107_2 := blk_frozen BK110.out 2; have hfz107_3 := blk_frozen BK110.out 3; have hcz108_0 : w106.cell? ⟨gb125, 0, none⟩ = some (.int .i64 ((rd_T42 t102 x10_2).f0.f0)) := (blk_cell BK125.out 0).trans rfl; have hcz108_1 : w106.cell? ⟨gb125, 1, none⟩ = some (.int .i64 ((rd_T42 t102 x10_2).f0.f1)) := (blk_cell BK125.out 1).trans rfl; have hfz108_0 := blk_frozen BK125.out 0; have hfz108_1 := blk_frozen BK125.out 1) | (go_at_call 14; (with_reducible refine (walkmilllaw05_pulled.calls _ _ t102 _ _ t105 t108 t109 ((rd_T42 t102 x10_2).f0.f1) ((rd_T40 t119 x10_2).f1) true _ ?side1 ?side2 ?side3 ?side4 A96.out).mono ?_); (case side1 => repeat (first | exact (Kd.R_reads' HO_111000.out).2.2 | (with_reducible refine Kd.C_alloc ?_ _) | (with_reducible refine Kd.C_drewN ?_ _) | (with_reducible refine Kd.C_drew ?_))); (case side2 => exact (Kd.R_reads' HO_111000.out).2.1); (case side3 => repeat (first | exact (Kd.R_reads' HO_111001.out).2.2 | (with_reducible refine Kd.C_alloc ?_ _) | (with_reducible refine Kd.C_drewN ?_ _) | (with_reducible refine Kd.C_drew ?_))); (case side4 => exact (Kd.R_reads' HO_111001.out).2.1); rintro e w109 ⟨rfl, hb⟩; have n0_ := Aside0.mk (Kd.R_below (by (with_reducible repeat (first | apply Kd.R_alloc | apply Kd.R_drewN | apply Kd.R_drew)); exact HO_8.out) hb); have n1_ := Aside0.mk (Kd.R_below (by (with_reducible repeat (first | apply Kd.R_alloc | apply Kd.R_drewN | apply Kd.R_drew)); exact HO_111000.out) hb); have n2_ := Aside0.mk (Kd.R_below (by (with_reducible repeat (first | apply Kd.R_alloc | apply Kd.R_drewN | apply Kd.R_drew)); exact HO_111001.out) hb); have n3_ := Aside0.mk (blk_below (g := gb101) (o := .cells #[.slice A0_0 l0_0.length c0_0, .int .u8 a0_1, .int .u8 a0_2, .int .u8 a0_3, .int .u8 a0_4, .int .u8 a0_5, .slice A0_6 l0_6.length c0_6] 26 (0, 0)) (by (with_reducible repeat (first | refine blk_drewN ?_ _ | refine blk_drew ?_ | refine blk_alloc ?_ _)); exact BK101.out) hb); have n4_ := Aside0.mk (blk_below (g := gb110) (o := .cells #[.slice (some ad124) t102.length co12, .slice Ao15 t105.length co15, .int .i64 t108, .int .i64 t109] 32 (0, 0)) (by (with_reducible repeat (first | refine blk_drewN ?_ _ | refine blk_drew ?_ | refine blk_alloc ?_ _)); exact BK110.out) hb); have n5_ := Aside0.mk (blk_below (g := gb125) (o := .cells #[.int .i64 ((rd_T42 t102 x10_2).f0.f0), .int .i64 ((rd_T42 t102 x10_2).f0.f1)] 40 (0, 0)) (by (with_reducible repeat (first | refine blk_drewN ?_ _ | refine blk_drew ?_ | refine blk_alloc ?_ _)); exact BK125.out) hb); have n6_ := Aside0.mk (below_step (by repeat (first | (with_reducible first | exact HB.out | apply below_alloc | apply pw_below_drewN | apply below_drew1 | refine below_set ?_ GE101.out | refine below_set ?_ GE110.out | refine below_set ?_ GE125.out) | exact HB.out)) hb); clear HO_8; clear HO_111000; clear HO_111001; clear BK101; clear BK110; clear BK125; clear HB; have HO_8 := n0_; have HO_111000 := n1_; have HO_111001 := n2_; have BK101 := n3_; have BK110 := n4_; have BK125 := n5_; have HB := n6_; clear n0_ n1_ n2_ n3_ n4_ n5_ n6_; (try clear hb); (try clear hb2); (try clear hk); (try clear hi)))
                         go_roundg k4
                         case measure => have := HJ6.out; have := HK2.out; have := HJ31.out; have := HK4.out; omega
                         case rel => exact ⟨(wrap64 (x18_4 + 1)), (by first | rfl | (simp; done) | (simp [*]; done)), H', ⟨by have := HJ6.out; have := HK2.out; have := HJ31.out; have := HK4.out; omega⟩, ⟨by (with_reducible repeat (first | apply Kd.R_alloc | apply Kd.R_drewN | apply Kd.R_drew)); exact HO_8.out⟩, ⟨by (with_reducible repeat (first | apply Kd.R_alloc | apply Kd.R_drewN | apply Kd.R_drew)); exact HO_111000.out⟩, ⟨by (with_reducible repeat (first | apply Kd.R_alloc | apply Kd.R_drewN | apply Kd.R_drew)); exact HO_111001.out⟩, ⟨by (with_reducible repeat (first | refine blk_drewN ?_ _ | refine blk_drew ?_ | refine blk_alloc ?_ _)); exact BK101.out⟩, ⟨by (with_reducible repeat (first | refine blk_drewN ?_ _ | refine blk_drew ?_ | refine blk_alloc ?_ _)); exact BK110.out⟩, ⟨by (with_reducible repeat (first | refine blk_drewN ?_ _ | refine blk_drew ?_ | refine blk_alloc ?_ _)); exact BK125.out⟩, ⟨by repeat (first | (with_reducible first | exact HB.out | apply below_alloc | apply pw_below_drewN | apply below_drew1 | refine below_set ?_ GE101.out | refine below_set ?_ GE110.out | refine below_set ?_ GE125.out) | exact HB.out)⟩⟩
                        ·
                         replace c97 := Bool.eq_false_iff.mpr c97
                         subst c97
                         have H1 : (some false) = some r := by rw [if_neg (show ¬ (false = true) by decide)] at H; exact H
                         clear H
                         have H := H1
                         clear H1
                         exact absurd ((Option.some.inj H).trans HRT.out) (by simp)
                       ·
                        replace c95 := Bool.eq_false_iff.mpr c95
                        subst c95
                        have H1 : (some false) = some r := by rw [if_neg (show ¬ (false = true) by decide)] at H; exact H
                        clear H
                        have H := H1
                        clear H1
                        exact absurd ((Option.some.inj H).trans HRT.out) (by simp)
                      ·
                       replace c93 := Bool.eq_false_iff.mpr c93
                       subst c93
                       have H1 : (some false) = some r := by rw [if_neg (show ¬ (false = true) by decide)] at H; exact H
                       clear H
                       have H := H1
                       clear H1
                       exact absurd ((Option.some.inj H).trans HRT.out) (by simp)
                     ·
                      rw [if_neg c91] at H
                      exact absurd H (by simp)
                   ·
                    rw [if_neg c71] at H
                    exact absurd H (by simp)
                  ·
                   rw [if_neg c70] at H
                   exact absurd H (by simp)
                 ·
                  rw [if_neg c69] at H
                  have c69b0 : decide (x18_4 < 2) = false := decide_eq_false c69
                  clear c69
                  by_cases c110 : 0 ≤ x10_2
                  ·
                   rw [if_pos c110] at H
                   have c110b0 : decide (0 ≤ x10_2) = true := decide_eq_true c110
                   clear c110
                   by_cases c111 : x10_2 < (t119.length : Int)
                   ·
                    rw [if_pos c111] at H
                    have c111b0 : decide (x10_2 < (t119.length : Int)) = true := decide_eq_true c111
                    clear c111
                    replace H := Option.bind_eq_some_iff.mp H
                    obtain ⟨t154, A1120, H⟩ := H
                    replace H : (if t154 = true then (some false) else ((walkmilllaw05_pulled.f t102 t105 t108 t109 ((rd_T42 t102 x10_2).f0.f0) (wrap64 (((rd_T40 t119 x10_2).f1) + 1))).bind fun t156 => (if t156 = true then (some false) else (walkmilllaw05_TenterNever.l0 k4 l1 a2 t119 (wrap64 (x10_2 + 1)) t102 t105 t108 t109)))) = some r := H
                    have A112 := Aside0.mk A1120
                    clear A1120
                    by_cases c113 : t154 = true
                    ·
                     subst c113
                     have H1 : (some false) = some r := by rw [if_pos rfl] at H; exact H
                     clear H
                     have H := H1
                     clear H1
                     exact absurd ((Option.some.inj H).trans HRT.out) (by simp)
                    ·
                     replace c113 := Bool.eq_false_iff.mpr c113
                     subst c113
                     have H1 : ((walkmilllaw05_pulled.f t102 t105 t108 t109 ((rd_T42 t102 x10_2).f0.f0) (wrap64 (((rd_T40 t119 x10_2).f1) + 1))).bind fun t156 => (if t156 = true then (some false) else (walkmilllaw05_TenterNever.l0 k4 l1 a2 t119 (wrap64 (x10_2 + 1)) t102 t105 t108 t109))) = some r := by rw [if_neg (show ¬ (false = true) by decide)] at H; exact H
                     clear H
                     have H := H1
                     clear H1
                     replace H := Option.bind_eq_some_iff.mp H
                     obtain ⟨t156, A1140, H⟩ := H
                     replace H : (if t156 = true then (some false) else (walkmilllaw05_TenterNever.l0 k4 l1 a2 t119 (wrap64 (x10_2 + 1)) t102 t105 t108 t109)) = some r := H
                     have A114 := Aside0.mk A1140
                     clear A1140
                     by_cases c115 : t156 = true
                     ·
                      subst c115
                      have H1 : (some false) = some r := by rw [if_pos rfl] at H; exact H
                      clear H
                      have H := H1
                      clear H1
                      exact absurd ((Option.some.inj H).trans HRT.out) (by simp)
                     ·
                      replace c115 := Bool.eq_false_iff.mpr c115
                      subst c115
                      have H1 : (walkmilllaw05_TenterNever.l0 k4 l1 a2 t119 (wrap64 (x10_2 + 1)) t102 t105 t108 t109) = some r := by rw [if_neg (show ¬ (false = true) by decide)] at H; exact H
                      clear H
                      have H := H1
                      clear H1
                      have H' := Aside0.mk H
                      clear H
                      try go_wp2
                      have n0_ := Aside0.mk (Kd.R_drew HO_8.out)
                      have n1_ := Aside0.mk (Kd.R_drew HO_111000.out)
                      have n2_ := Aside0.mk (Kd.R_drew HO_111001.out)
                      have n3_ := Aside0.mk (blk_drew BK101.out)
                      have n4_ := Aside0.mk (blk_drew BK110.out)
                      have n5_ := Aside0.mk (blk_drew BK125.out)
                      have n6_ := Aside0.mk (below_drew1 HB.out)
                      clear HO_8
                      clear HO_111000
                      clear HO_111001
                      clear BK101
                      clear BK110
                      clear BK125
                      clear HB
                      have HO_8 := n0_
                      have HO_111000 := n1_
                      have HO_111001 := n2_
                      have BK101 := n3_
                      have BK110 := n4_
                      have BK125 := n5_
                      have HB := n6_
                      clear n0_ n1_ n2_ n3_ n4_ n5_ n6_
                      have p153 : 0 ≤ (x10_2 : Int) := of_decide_eq_true (by first | (with_reducible assumption) | assumption)
                      have q153 : x10_2 < (t119.length : Int) := of_decide_eq_true (by first | (with_reducible assumption) | assumption)
                      obtain ⟨ad153, e153, hx153_0, hx153_1⟩ := at_T40 (Kd.R_reads' HO_8.out).2.2 x10_2 p153 q153
                      obtain rfl : ad139 = ad153 := (by injection e153)
                      replace p153 := eq_true p153
                      replace q153 := eq_true q153
                      have p155 : 0 ≤ (x10_2 : Int) := of_decide_eq_true (by first | (with_reducible assumption) | assumption)
                      have q155 : x10_2 < (t119.length : Int) := of_decide_eq_true (by first | (with_reducible assumption) | assumption)
                      obtain ⟨ad155, e155, hx155_0, hx155_1⟩ := at_T40 (Kd.R_reads' HO_8.out).2.2 x10_2 p155 q155
                      obtain rfl : ad139 = ad155 := (by injection e155)
                      replace p155 := eq_true p155
                      replace q155 := eq_true q155
                      refine start_ (n := 22) (S := fun w' => w'.cell? ⟨gb110, 0, none⟩ = some (.slice (some ad124) t102.length co12) ∧ w'.cell? ⟨gb110, 1, none⟩ = some (.slice Ao15 t105.length co15) ∧ w'.cell? ⟨gb110, 2, none⟩ = some (.int .i64 t108) ∧ w'.cell? ⟨gb110, 3, none⟩ = some (.int .i64 t109) ∧ w'.cell? ⟨gb125, 0, none⟩ = some (.int .i64 ((rd_T42 t102 x10_2).f0.f0)) ∧ w'.cell? ⟨gb125, 1, none⟩ = some (.int .i64 ((rd_T42 t102 x10_2).f0.f1)) ∧ w'.cell? (ad139.add ((x10_2).toNat * 2)) = some (.int .i64 ((rd_T40 t119 x10_2).f0)) ∧ w'.cell? ⟨(ad139.add ((x10_2).toNat * 2)).block, (ad139.add ((x10_2).toNat * 2)).off + 1, none⟩ = some (.int .i64 ((rd_T40 t119 x10_2).f1)) ∧ w'.cell? (ad139.add ((x10_2).toNat * 2)) = some (.int .i64 ((rd_T40 t119 x10_2).f0)) ∧ w'.cell? ⟨(ad139.add ((x10_2).toNat * 2)).block, (ad139.add ((x10_2).toNat * 2)).off + 1, none⟩ = some (.int .i64 ((rd_T40 t119 x10_2).f1))) (ds := []) #[false, false, false, false, false, false, false, false, false, false, false, false, false, false, false, false, false, false, false, false, false, false] (by kernel_rfl) rfl rfl ⟨(blk_cell BK110.out 0).trans rfl, (blk_cell BK110.out 1).trans rfl, (blk_cell BK110.out 2).trans rfl, (blk_cell BK110.out 3).trans rfl, (blk_cell BK125.out 0).trans rfl, (blk_cell BK125.out 1).trans rfl, hx153_0, hx153_1, hx155_0, hx155_1⟩ (fun hHeld => ?_); refine with_tabW walkmilllaw05_TenterNever.tab23 walkmilllaw05_TenterNever.bits23 (fun HT_ HW_ => ?_)
                      generalize wr.drew = w116 at HO_8 HO_111000 HO_111001 BK101 BK110 BK125 HB hx153_0 hx153_1 hx155_0 hx155_1 hHeld ⊢
                      refine pure_ (i := 1) (N := some 163) (v := ?_) (a' := ?_) #[false, true, false, false, false, false, false, false, false, false, false, false, false, false, false, false, false, false, false, false, false, false] rfl rfl (any_of HT_.out (by kernel_rfl)) (fun _ _ _ h => h) (Or.inl ⟨by rfl, ?_⟩) ?_ ?_
                      rotate_left
                      ·
                       intro w'
                       go_simp
                       with_reducible rfl
                      rotate_left
                      ·
                       simp only [Act.put, List.setIfInBounds_toArray, List.set_cons_zero, List.set_cons_succ, i64_w, i32_w]
                       rfl
                      refine pure_ (i := 3) (N := some 165) (v := ?_) (a' := ?_) #[false, true, false, true, false, false, false, false, false, false, false, false, false, false, false, false, false, false, false, false, false, false] rfl rfl (any_of HT_.out (by kernel_rfl)) (fun _ _ _ h => h) (Or.inl ⟨by rfl, ?_⟩) ?_ ?_
                      rotate_left
                      ·
                       intro w'
                       go_simp
                       with_reducible rfl
                      rotate_left
                      ·
                       simp only [Act.put, List.setIfInBounds_toArray, List.set_cons_zero, List.set_cons_succ, i64_w, i32_w]
                       rfl
                      refine pure_ (i := 4) (N := some 166) (v := ?_) (a' := ?_) #[false, true, false, true, true, false, false, false, false, false, false, false, false, false, false, false, false, false, false, false, false, false] rfl rfl (any_of HT_.out (by kernel_rfl)) (fun _ _ _ h => h) (Or.inl ⟨by rfl, ?_⟩) ?_ ?_
                      rotate_left
                      ·
                       intro w'
                       go_simp
                       with_reducible rfl
                      rotate_left
                      ·
                       simp only [Act.put, List.setIfInBounds_toArray, List.set_cons_zero, List.set_cons_succ, i64_w, i32_w]
                       rfl
                      refine pure_ (i := 5) (N := some 167) (v := ?_) (a' := ?_) #[false, true, false, true, true, true, false, false, false, false, false, false, false, false, false, false, false, false, false, false, false, false] rfl rfl (any_of HT_.out (by kernel_rfl)) (fun _ _ _ h => h) (Or.inl ⟨by rfl, ?_⟩) ?_ ?_
                      rotate_left
                      ·
                       intro w'
                       go_simp
                       with_reducible rfl
                      rotate_left
                      ·
                       simp only [Act.put, List.setIfInBounds_toArray, List.set_cons_zero, List.set_cons_succ, i64_w, i32_w]
                       rfl
                      refine pure_ (i := 6) (N := some 168) (v := ?_) (a' := ?_) #[false, true, false, true, true, true, true, false, false, false, false, false, false, false, false, false, false, false, false, false, false, false] rfl rfl (any_of HT_.out (by kernel_rfl)) (fun _ _ _ h => h) (Or.inl ⟨by rfl, ?_⟩) ?_ ?_
                      rotate_left
                      ·
                       intro w'
                       go_simp
                       with_reducible rfl
                      rotate_left
                      ·
                       simp only [Act.put, List.setIfInBounds_toArray, List.set_cons_zero, List.set_cons_succ, i64_w, i32_w]
                       rfl
                      refine take_ (i := 0) (N := some 162) (v := ?_) (a' := ?_) #[true, true, false, true, true, true, true, false, false, false, false, false, false, false, false, false, false, false, false, false, false, false] rfl rfl (take_ofW HT_.out HW_.out (by kernel_rfl)) (fun _ _ _ h => h) (Or.inl ⟨by rfl, ?_⟩) hHeld ?_ ?_
                      rotate_left
                      ·
                       rintro w' ⟨s0, s1, s2, s3, s4, s5, s6, s7, s8, s9⟩
                       go_simp
                       with_reducible rfl
                      rotate_left
                      ·
                       simp only [Act.put, List.setIfInBounds_toArray, List.set_cons_zero, List.set_cons_succ, i64_w, i32_w]
                       rfl
                      refine take_ (i := 2) (N := some 164) (v := ?_) (a' := ?_) #[true, true, true, true, true, true, true, false, false, false, false, false, false, false, false, false, false, false, false, false, false, false] rfl rfl (take_ofW HT_.out HW_.out (by kernel_rfl)) (fun _ _ _ h => h) (Or.inl ⟨by rfl, ?_⟩) hHeld ?_ ?_
                      rotate_left
                      ·
                       rintro w' ⟨s0, s1, s2, s3, s4, s5, s6, s7, s8, s9⟩
                       go_simp
                       with_reducible rfl
                      rotate_left
                      ·
                       simp only [Act.put, List.setIfInBounds_toArray, List.set_cons_zero, List.set_cons_succ, i64_w, i32_w]
                       rfl
                      refine take_ (i := 7) (N := some 169) (v := ?_) (a' := ?_) #[true, true, true, true, true, true, true, true, false, false, false, false, false, false, false, false, false, false, false, false, false, false] rfl rfl (take_ofW HT_.out HW_.out (by kernel_rfl)) (fun _ _ _ h => h) (Or.inl ⟨by rfl, ?_⟩) hHeld ?_ ?_
                      rotate_left
                      ·
                       rintro w' ⟨s0, s1, s2, s3, s4, s5, s6, s7, s8, s9⟩
                       go_simp
                       with_reducible rfl
                      rotate_left
                      ·
                       simp only [Act.put, List.setIfInBounds_toArray, List.set_cons_zero, List.set_cons_succ, i64_w, i32_w]
                       rfl
                      refine pure_ (i := 8) (N := some 170) (v := ?_) (a' := ?_) #[true, true, true, true, true, true, true, true, true, false, false, false, false, false, false, false, false, false, false, false, false, false] rfl rfl (any_of HT_.out (by kernel_rfl)) (fun _ _ _ h => h) (Or.inl ⟨by rfl, ?_⟩) ?_ ?_
                      rotate_left
                      ·
                       intro w'
                       go_simp
                       with_reducible rfl
                      rotate_left
                      ·
                       simp only [Act.put, List.setIfInBounds_toArray, List.set_cons_zero, List.set_cons_succ, i64_w, i32_w]
                       rfl
                      refine one_ (i := 9) (N := some 171) #[true, true, true, true, true, true, true, true, true, true, false, false, false, false, false, false, false, false, false, false, false, false] rfl rfl (one_of HT_.out (by kernel_rfl)) (by decide) (fun K hK => ?_)
                      refine goes_ Tryd.func14 (by kernel_rfl) rfl #[.agg #[.slice (some ad124) t102.length co12, .slice Ao15 t105.length co15, .int .i64 t108, .int .i64 t109], .int .i64 ((rd_T42 t102 x10_2).f0.f1), .int .i64 (wrap64 (((rd_T40 t119 x10_2).f0) - 1))] (by rfl) rfl rfl (by (try simp only [List.map_toArray, List.map_cons, List.map_nil]); first | done | rfl | (simp only [List.length_drop, List.length_take]; rfl)) ?_
                      with_reducible refine (walkmilllaw05_pulled.calls _ _ t102 _ _ t105 t108 t109 ((rd_T42 t102 x10_2).f0.f1) (wrap64 (((rd_T40 t119 x10_2).f0) - 1)) false _ ?side1 ?side2 ?side3 ?side4 A112.out).mono ?_
                      (case side1 => repeat (first | exact (Kd.R_reads' HO_111000.out).2.2 | (with_reducible refine Kd.C_alloc ?_ _) | (with_reducible refine Kd.C_drewN ?_ _) | (with_reducible refine Kd.C_drew ?_)))
                      (case side2 => exact (Kd.R_reads' HO_111000.out).2.1)
                      (case side3 => repeat (first | exact (Kd.R_reads' HO_111001.out).2.2 | (with_reducible refine Kd.C_alloc ?_ _) | (with_reducible refine Kd.C_drewN ?_ _) | (with_reducible refine Kd.C_drew ?_)))
                      (case side4 => exact (Kd.R_reads' HO_111001.out).2.1)
                      rintro e w117 ⟨rfl, hb⟩
                      have HS6_ := (hb.cell (World.block_lt_of_cell? _ _ (hHeld.2.2.2.2.2.2.1))).trans (hHeld.2.2.2.2.2.2.1)
                      have HS7_ := (hb.cell (World.block_lt_of_cell? _ _ (hHeld.2.2.2.2.2.2.2.1))).trans (hHeld.2.2.2.2.2.2.2.1)
                      have HS8_ := (hb.cell (World.block_lt_of_cell? _ _ (hHeld.2.2.2.2.2.2.2.2.1))).trans (hHeld.2.2.2.2.2.2.2.2.1)
                      have HS9_ := (hb.cell (World.block_lt_of_cell? _ _ (hHeld.2.2.2.2.2.2.2.2.2))).trans (hHeld.2.2.2.2.2.2.2.2.2)
                      refine ⟨_, rfl, ?_⟩
                      have n0_ := Aside0.mk (Kd.R_below (by (with_reducible repeat (first | apply Kd.R_alloc | apply Kd.R_drewN | apply Kd.R_drew)); exact HO_8.out) hb)
                      have n1_ := Aside0.mk (Kd.R_below (by (with_reducible repeat (first | apply Kd.R_alloc | apply Kd.R_drewN | apply Kd.R_drew)); exact HO_111000.out) hb)
                      have n2_ := Aside0.mk (Kd.R_below (by (with_reducible repeat (first | apply Kd.R_alloc | apply Kd.R_drewN | apply Kd.R_drew)); exact HO_111001.out) hb)
                      have n3_ := Aside0.mk (blk_below (g := gb101) (o := .cells #[.slice A0_0 l0_0.length c0_0, .int .u8 a0_1, .int .u8 a0_2, .int .u8 a0_3, .int .u8 a0_4, .int .u8 a0_5, .slice A0_6 l0_6.length c0_6] 26 (0, 0)) (by (with_reducible repeat (first | refine blk_drewN ?_ _ | refine blk_drew ?_ | refine blk_alloc ?_ _)); exact BK101.out) hb)
                      have n4_ := Aside0.mk (blk_below (g := gb110) (o := .cells #[.slice (some ad124) t102.length co12, .slice Ao15 t105.length co15, .int .i64 t108, .int .i64 t109] 32 (0, 0)) (by (with_reducible repeat (first | refine blk_drewN ?_ _ | refine blk_drew ?_ | refine blk_alloc ?_ _)); exact BK110.out) hb)
                      have n5_ := Aside0.mk (blk_below (g := gb125) (o := .cells #[.int .i64 ((rd_T42 t102 x10_2).f0.f0), .int .i64 ((rd_T42 t102 x10_2).f0.f1)] 40 (0, 0)) (by (with_reducible repeat (first | refine blk_drewN ?_ _ | refine blk_drew ?_ | refine blk_alloc ?_ _)); exact BK125.out) hb)
                      have n6_ := Aside0.mk (below_step (by repeat (first | (with_reducible first | exact HB.out | apply below_alloc | apply pw_below_drewN | apply below_drew1 | refine below_set ?_ GE101.out | refine below_set ?_ GE110.out | refine below_set ?_ GE125.out) | exact HB.out)) hb)
                      clear HO_8
                      clear HO_111000
                      clear HO_111001
                      clear BK101
                      clear BK110
                      clear BK125
                      clear HB
                      have HO_8 := n0_
                      have HO_111000 := n1_
                      have HO_111001 := n2_
                      have BK101 := n3_
                      have BK110 := n4_
                      have BK125 := n5_
                      have HB := n6_
                      clear n0_ n1_ n2_ n3_ n4_ n5_ n6_
                      (try clear hb)
                      (try clear hb2)
                      (try clear hk)
                      (try clear hi)
                      refine hK.out _ _ ⟨(blk_cell BK110.out 0).trans rfl, (blk_cell BK110.out 1).trans rfl, (blk_cell BK110.out 2).trans rfl, (blk_cell BK110.out 3).trans rfl, (blk_cell BK125.out 0).trans rfl, (blk_cell BK125.out 1).trans rfl, HS6_, HS7_, HS8_, HS9_⟩ (fun hHeld => ?_)
                      clear hK K
                      refine norm_ (a' := ?_) ?_ ?_
                      rotate_left
                      ·
                       show Act.put _ (some 171) _ = _
                       simp only [Act.put, List.setIfInBounds_toArray, List.set_cons_zero, List.set_cons_succ, i64_w, i32_w]
                       rfl
                      refine pure_ (i := 10) (N := some 172) (v := ?_) (a' := ?_) #[true, true, true, true, true, true, true, true, true, true, true, false, false, false, false, false, false, false, false, false, false, false] rfl rfl (any_of HT_.out (by kernel_rfl)) (fun _ _ _ h => h) (Or.inl ⟨by rfl, ?_⟩) ?_ ?_
                      rotate_left
                      ·
                       intro w'
                       go_simp
                       with_reducible rfl
                      rotate_left
                      ·
                       simp only [Act.put, List.setIfInBounds_toArray, List.set_cons_zero, List.set_cons_succ, i64_w, i32_w]
                       rfl
                      refine pure_ (i := 12) (N := some 174) (v := ?_) (a' := ?_) #[true, true, true, true, true, true, true, true, true, true, true, false, true, false, false, false, false, false, false, false, false, false] rfl rfl (any_of HT_.out (by kernel_rfl)) (fun _ _ _ h => h) (Or.inl ⟨by rfl, ?_⟩) ?_ ?_
                      rotate_left
                      ·
                       intro w'
                       go_simp
                       with_reducible rfl
                      rotate_left
                      ·
                       simp only [Act.put, List.setIfInBounds_toArray, List.set_cons_zero, List.set_cons_succ, i64_w, i32_w]
                       rfl
                      refine pure_ (i := 14) (N := some 176) (v := ?_) (a' := ?_) #[true, true, true, true, true, true, true, true, true, true, true, false, true, false, true, false, false, false, false, false, false, false] rfl rfl (any_of HT_.out (by kernel_rfl)) (fun _ _ _ h => h) (Or.inl ⟨by rfl, ?_⟩) ?_ ?_
                      rotate_left
                      ·
                       intro w'
                       go_simp
                       with_reducible rfl
                      rotate_left
                      ·
                       simp only [Act.put, List.setIfInBounds_toArray, List.set_cons_zero, List.set_cons_succ, i64_w, i32_w]
                       rfl
                      refine pure_ (i := 15) (N := some 177) (v := ?_) (a' := ?_) #[true, true, true, true, true, true, true, true, true, true, true, false, true, false, true, true, false, false, false, false, false, false] rfl rfl (any_of HT_.out (by kernel_rfl)) (fun _ _ _ h => h) (Or.inl ⟨by rfl, ?_⟩) ?_ ?_
                      rotate_left
                      ·
                       intro w'
                       go_simp
                       with_reducible rfl
                      rotate_left
                      ·
                       simp only [Act.put, List.setIfInBounds_toArray, List.set_cons_zero, List.set_cons_succ, i64_w, i32_w]
                       rfl
                      refine pure_ (i := 16) (N := some 178) (v := ?_) (a' := ?_) #[true, true, true, true, true, true, true, true, true, true, true, false, true, false, true, true, true, false, false, false, false, false] rfl rfl (any_of HT_.out (by kernel_rfl)) (fun _ _ _ h => h) (Or.inl ⟨by rfl, ?_⟩) ?_ ?_
                      rotate_left
                      ·
                       intro w'
                       go_simp
                       with_reducible rfl
                      rotate_left
                      ·
                       simp only [Act.put, List.setIfInBounds_toArray, List.set_cons_zero, List.set_cons_succ, i64_w, i32_w]
                       rfl
                      refine pure_ (i := 17) (N := some 179) (v := ?_) (a' := ?_) #[true, true, true, true, true, true, true, true, true, true, true, false, true, false, true, true, true, true, false, false, false, false] rfl rfl (any_of HT_.out (by kernel_rfl)) (fun _ _ _ h => h) (Or.inl ⟨by rfl, ?_⟩) ?_ ?_
                      rotate_left
                      ·
                       intro w'
                       go_simp
                       with_reducible rfl
                      rotate_left
                      ·
                       simp only [Act.put, List.setIfInBounds_toArray, List.set_cons_zero, List.set_cons_succ, i64_w, i32_w]
                       rfl
                      refine take_ (i := 11) (N := some 173) (v := ?_) (a' := ?_) #[true, true, true, true, true, true, true, true, true, true, true, true, true, false, true, true, true, true, false, false, false, false] rfl rfl (take_ofW HT_.out HW_.out (by kernel_rfl)) (fun _ _ _ h => h) (Or.inl ⟨by rfl, ?_⟩) hHeld ?_ ?_
                      rotate_left
                      ·
                       rintro w' ⟨s0, s1, s2, s3, s4, s5, s6, s7, s8, s9⟩
                       go_simp
                       with_reducible rfl
                      rotate_left
                      ·
                       simp only [Act.put, List.setIfInBounds_toArray, List.set_cons_zero, List.set_cons_succ, i64_w, i32_w]
                       rfl
                      refine take_ (i := 13) (N := some 175) (v := ?_) (a' := ?_) #[true, true, true, true, true, true, true, true, true, true, true, true, true, true, true, true, true, true, false, false, false, false] rfl rfl (take_ofW HT_.out HW_.out (by kernel_rfl)) (fun _ _ _ h => h) (Or.inl ⟨by rfl, ?_⟩) hHeld ?_ ?_
                      rotate_left
                      ·
                       rintro w' ⟨s0, s1, s2, s3, s4, s5, s6, s7, s8, s9⟩
                       go_simp
                       with_reducible rfl
                      rotate_left
                      ·
                       simp only [Act.put, List.setIfInBounds_toArray, List.set_cons_zero, List.set_cons_succ, i64_w, i32_w]
                       rfl
                      refine take_ (i := 18) (N := some 180) (v := ?_) (a' := ?_) #[true, true, true, true, true, true, true, true, true, true, true, true, true, true, true, true, true, true, true, false, false, false] rfl rfl (take_ofW HT_.out HW_.out (by kernel_rfl)) (fun _ _ _ h => h) (Or.inl ⟨by rfl, ?_⟩) hHeld ?_ ?_
                      rotate_left
                      ·
                       rintro w' ⟨s0, s1, s2, s3, s4, s5, s6, s7, s8, s9⟩
                       go_simp
                       with_reducible rfl
                      rotate_left
                      ·
                       simp only [Act.put, List.setIfInBounds_toArray, List.set_cons_zero, List.set_cons_succ, i64_w, i32_w]
                       rfl
                      refine pure_ (i := 19) (N := some 181) (v := ?_) (a' := ?_) #[true, true, true, true, true, true, true, true, true, true, true, true, true, true, true, true, true, true, true, true, false, false] rfl rfl (any_of HT_.out (by kernel_rfl)) (fun _ _ _ h => h) (Or.inl ⟨by rfl, ?_⟩) ?_ ?_
                      rotate_left
                      ·
                       intro w'
                       go_simp
                       with_reducible rfl
                      rotate_left
                      ·
                       simp only [Act.put, List.setIfInBounds_toArray, List.set_cons_zero, List.set_cons_succ, i64_w, i32_w]
                       rfl
                      refine one_ (i := 20) (N := some 182) #[true, true, true, true, true, true, true, true, true, true, true, true, true, true, true, true, true, true, true, true, true, false] rfl rfl (one_of HT_.out (by kernel_rfl)) (by decide) (fun K hK => ?_)
                      refine goes_ Tryd.func14 (by kernel_rfl) rfl #[.agg #[.slice (some ad124) t102.length co12, .slice Ao15 t105.length co15, .int .i64 t108, .int .i64 t109], .int .i64 ((rd_T42 t102 x10_2).f0.f0), .int .i64 (wrap64 (((rd_T40 t119 x10_2).f1) + 1))] (by rfl) rfl rfl (by (try simp only [List.map_toArray, List.map_cons, List.map_nil]); first | done | rfl | (simp only [List.length_drop, List.length_take]; rfl)) ?_
                      with_reducible refine (walkmilllaw05_pulled.calls _ _ t102 _ _ t105 t108 t109 ((rd_T42 t102 x10_2).f0.f0) (wrap64 (((rd_T40 t119 x10_2).f1) + 1)) false _ ?side1 ?side2 ?side3 ?side4 A114.out).mono ?_
                      (case side1 => repeat (first | exact (Kd.R_reads' HO_111000.out).2.2 | (with_reducible refine Kd.C_alloc ?_ _) | (with_reducible refine Kd.C_drewN ?_ _) | (with_reducible refine Kd.C_drew ?_)))
                      (case side2 => exact (Kd.R_reads' HO_111000.out).2.1)
                      (case side3 => repeat (first | exact (Kd.R_reads' HO_111001.out).2.2 | (with_reducible refine Kd.C_alloc ?_ _) | (with_reducible refine Kd.C_drewN ?_ _) | (with_reducible refine Kd.C_drew ?_)))
                      (case side4 => exact (Kd.R_reads' HO_111001.out).2.1)
                      rintro e w118 ⟨rfl, hb⟩
                      have HS6_ := (hb.cell (World.block_lt_of_cell? _ _ (hHeld.2.2.2.2.2.2.1))).trans (hHeld.2.2.2.2.2.2.1)
                      have HS7_ := (hb.cell (World.block_lt_of_cell? _ _ (hHeld.2.2.2.2.2.2.2.1))).trans (hHeld.2.2.2.2.2.2.2.1)
                      have HS8_ := (hb.cell (World.block_lt_of_cell? _ _ (hHeld.2.2.2.2.2.2.2.2.1))).trans (hHeld.2.2.2.2.2.2.2.2.1)
                      have HS9_ := (hb.cell (World.block_lt_of_cell? _ _ (hHeld.2.2.2.2.2.2.2.2.2))).trans (hHeld.2.2.2.2.2.2.2.2.2)
                      refine ⟨_, rfl, ?_⟩
                      have n0_ := Aside0.mk (Kd.R_below (by (with_reducible repeat (first | apply Kd.R_alloc | apply Kd.R_drewN | apply Kd.R_drew)); exact HO_8.out) hb)
                      have n1_ := Aside0.mk (Kd.R_below (by (with_reducible repeat (first | apply Kd.R_alloc | apply Kd.R_drewN | apply Kd.R_drew)); exact HO_111000.out) hb)
                      have n2_ := Aside0.mk (Kd.R_below (by (with_reducible repeat (first | apply Kd.R_alloc | apply Kd.R_drewN | apply Kd.R_drew)); exact HO_111001.out) hb)
                      have n3_ := Aside0.mk (blk_below (g := gb101) (o := .cells #[.slice A0_0 l0_0.length c0_0, .int .u8 a0_1, .int .u8 a0_2, .int .u8 a0_3, .int .u8 a0_4, .int .u8 a0_5, .slice A0_6 l0_6.length c0_6] 26 (0, 0)) (by (with_reducible repeat (first | refine blk_drewN ?_ _ | refine blk_drew ?_ | refine blk_alloc ?_ _)); exact BK101.out) hb)
                      have n4_ := Aside0.mk (blk_below (g := gb110) (o := .cells #[.slice (some ad124) t102.length co12, .slice Ao15 t105.length co15, .int .i64 t108, .int .i64 t109] 32 (0, 0)) (by (with_reducible repeat (first | refine blk_drewN ?_ _ | refine blk_drew ?_ | refine blk_alloc ?_ _)); exact BK110.out) hb)
                      have n5_ := Aside0.mk (blk_below (g := gb125) (o := .cells #[.int .i64 ((rd_T42 t102 x10_2).f0.f0), .int .i64 ((rd_T42 t102 x10_2).f0.f1)] 40 (0, 0)) (by (with_reducible repeat (first | refine blk_drewN ?_ _ | refine blk_drew ?_ | refine blk_alloc ?_ _)); exact BK125.out) hb)
                      have n6_ := Aside0.mk (below_step (by repeat (first | (with_reducible first | exact HB.out | apply below_alloc | apply pw_below_drewN | apply below_drew1 | refine below_set ?_ GE101.out | refine below_set ?_ GE110.out | refine below_set ?_ GE125.out) | exact HB.out)) hb)
                      clear HO_8
                      clear HO_111000
                      clear HO_111001
                      clear BK101
                      clear BK110
                      clear BK125
                      clear HB
                      have HO_8 := n0_
                      have HO_111000 := n1_
                      have HO_111001 := n2_
                      have BK101 := n3_
                      have BK110 := n4_
                      have BK125 := n5_
                      have HB := n6_
                      clear n0_ n1_ n2_ n3_ n4_ n5_ n6_
                      (try clear hb)
                      (try clear hb2)
                      (try clear hk)
                      (try clear hi)
                      refine hK.out _ _ ⟨(blk_cell BK110.out 0).trans rfl, (blk_cell BK110.out 1).trans rfl, (blk_cell BK110.out 2).trans rfl, (blk_cell BK110.out 3).trans rfl, (blk_cell BK125.out 0).trans rfl, (blk_cell BK125.out 1).trans rfl, HS6_, HS7_, HS8_, HS9_⟩ (fun hHeld => ?_)
                      clear hK K
                      refine norm_ (a' := ?_) ?_ ?_
                      rotate_left
                      ·
                       show Act.put _ (some 182) _ = _
                       simp only [Act.put, List.setIfInBounds_toArray, List.set_cons_zero, List.set_cons_succ, i64_w, i32_w]
                       rfl
                      refine pure_ (i := 21) (N := some 183) (v := ?_) (a' := ?_) #[true, true, true, true, true, true, true, true, true, true, true, true, true, true, true, true, true, true, true, true, true, true] rfl rfl (any_of HT_.out (by kernel_rfl)) (fun _ _ _ h => h) (Or.inl ⟨by rfl, ?_⟩) ?_ ?_
                      rotate_left
                      ·
                       intro w'
                       go_simp
                       with_reducible rfl
                      rotate_left
                      ·
                       simp only [Act.put, List.setIfInBounds_toArray, List.set_cons_zero, List.set_cons_succ, i64_w, i32_w]
                       rfl
                      refine done_ (done_of HT_.out (by kernel_rfl)) ?_
                      try go_wp2
                      go_roundg k4
                      case measure => have := HJ6.out; have := HK2.out; have := HJ31.out; have := HK4.out; omega
                      case rel => exact ⟨(wrap64 (x10_2 + 1)), (by first | rfl | (simp; done) | (simp [*]; done)), H', ⟨by have := HJ6.out; have := HK2.out; have := HJ31.out; have := HK4.out; omega⟩, ⟨by (with_reducible repeat (first | apply Kd.R_alloc | apply Kd.R_drewN | apply Kd.R_drew)); exact Kd.R_mono HO_8.out (fun _ hk => trivial)⟩, ⟨by (with_reducible repeat (first | apply Kd.R_alloc | apply Kd.R_drewN | apply Kd.R_drew)); exact HO_111000.out⟩, ⟨by (with_reducible repeat (first | apply Kd.R_alloc | apply Kd.R_drewN | apply Kd.R_drew)); exact HO_111001.out⟩, ⟨by (with_reducible repeat (first | refine blk_drewN ?_ _ | refine blk_drew ?_ | refine blk_alloc ?_ _)); exact BK101.out⟩, ⟨by (with_reducible repeat (first | refine blk_drewN ?_ _ | refine blk_drew ?_ | refine blk_alloc ?_ _)); exact BK110.out⟩, ⟨by repeat (first | (with_reducible first | exact HB.out | apply below_alloc | apply pw_below_drewN | apply below_drew1 | refine below_set ?_ GE101.out | refine below_set ?_ GE110.out | refine below_set ?_ GE125.out) | exact HB.out)⟩⟩
                   ·
                    rw [if_neg c111] at H
                    exact absurd H (by simp)
                  ·
                   rw [if_neg c110] at H
                   exact absurd H (by simp)
             ·
              rw [if_neg c58] at H
              exact absurd H (by simp)
            ·
             rw [if_neg c57] at H
             exact absurd H (by simp)
        ·
         rw [if_neg c27] at H
         exact absurd H (by simp)
       ·
        rw [if_neg c26] at H
        exact absurd H (by simp)
      ·
       rw [if_neg c25] at H
       have c25b0 : decide (x10_2 < (t119.length : Int)) = false := decide_eq_false c25
       clear c25
       replace H := Option.bind_eq_some_iff.mp H
       obtain ⟨t123, A1190, H⟩ := H
       replace H : (some t123) = some r := H
       have A119 := Aside0.mk A1190
       clear A1190
       obtain rfl := Option.some.inj H
       obtain ⟨Ao120, co120, eo120⟩ := Kd.R_slice HO_8.out
       subst eo120
       go_wp2_with (first | ((with_reducible refine gate_callee (f := 15) rfl ?_); refine goesL_ (some 184) rfl rfl Tryd.func15 (by kernel_rfl) rfl #[] rfl (by (try simp only [List.map_toArray, List.map_cons, List.map_nil]); first | done | rfl | (simp only [List.length_drop, List.length_take]; rfl)) ?_; (with_reducible refine (walkmilllaw05_known.calls t123 _ A119.out (LaidT.below HLd.out (by repeat (first | (with_reducible first | exact HB.out | apply below_alloc | apply pw_below_drewN | apply below_drew1 | refine below_set ?_ GE101.out | refine below_set ?_ GE110.out) | exact HB.out)))).mono ?_); rintro e w121 ⟨rfl, hb⟩; refine ⟨_, rfl, ?_⟩; have n0_ := Aside0.mk (Kd.R_below (by (with_reducible repeat (first | apply Kd.R_alloc | apply Kd.R_drewN | apply Kd.R_drew)); exact HO_8.out) hb); have n1_ := Aside0.mk (Kd.R_below (by (with_reducible repeat (first | apply Kd.R_alloc | apply Kd.R_drewN | apply Kd.R_drew)); exact HO_111000.out) hb); have n2_ := Aside0.mk (Kd.R_below (by (with_reducible repeat (first | apply Kd.R_alloc | apply Kd.R_drewN | apply Kd.R_drew)); exact HO_111001.out) hb); have n3_ := Aside0.mk (blk_below (g := gb101) (o := .cells #[.slice A0_0 l0_0.length c0_0, .int .u8 a0_1, .int .u8 a0_2, .int .u8 a0_3, .int .u8 a0_4, .int .u8 a0_5, .slice A0_6 l0_6.length c0_6] 26 (0, 0)) (by (with_reducible repeat (first | refine blk_drewN ?_ _ | refine blk_drew ?_ | refine blk_alloc ?_ _)); exact BK101.out) hb); have n4_ := Aside0.mk (blk_below (g := gb110) (o := .cells #[.slice Ao12 t102.length co12, .slice Ao15 t105.length co15, .int .i64 t108, .int .i64 t109] 32 (0, 0)) (by (with_reducible repeat (first | refine blk_drewN ?_ _ | refine blk_drew ?_ | refine blk_alloc ?_ _)); exact BK110.out) hb); have n5_ := Aside0.mk (below_step (by repeat (first | (with_reducible first | exact HB.out | apply below_alloc | apply pw_below_drewN | apply below_drew1 | refine below_set ?_ GE101.out | refine below_set ?_ GE110.out) | exact HB.out)) hb); clear HO_8; clear HO_111000; clear HO_111001; clear BK101; clear BK110; clear HB; have HO_8 := n0_; have HO_111000 := n1_; have HO_111001 := n2_; have BK101 := n3_; have BK110 := n4_; have HB := n5_; clear n0_ n1_ n2_ n3_ n4_ n5_; (try clear hb); (try clear hb2); (try clear hk); (try clear hi)))
       go_ret
       exact ⟨by first | rfl | (simp [errW_none, errW_some] <;> rfl) | (simp [*, errW_none, errW_some] <;> rfl), by repeat (first | (with_reducible first | exact HB.out | apply below_alloc | apply pw_below_drewN | apply below_drew1 | refine below_set ?_ GE101.out | refine below_set ?_ GE110.out) | exact HB.out)⟩
end Go.Proofs.YtikmfpjcdcckeaaDoor.P
