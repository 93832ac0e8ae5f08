/- Part 8 of what the law's proof needs: words, walks of functions and plain facts. -/
import Derived.Deep.Slices
import Derived.OpenShut
import Derived.ChangeArms
import Derived.Test.YtikmfpjcdcckeaaGreatDoorB01
import Derived.Test.YtikmfpjcdcckeaaGreatDoorB02
import Derived.Test.YtikmfpjcdcckeaaGreatDoorB03
import Derived.Test.YtikmfpjcdcckeaaGreatDoorB05
import Derived.Test.YtikmfpjcdcckeaaGreatDoorB07
set_option linter.unusedVariables false
set_option linter.unusedSimpArgs false
namespace Go.Proofs.YtikmfpjcdcckeaaGreatDoor.P
open Go.RowKit Go.Proofs.YtikmfpjcdcckeaaGreatDoorW.PrintWords Go.Proofs.YtikmfpjcdcckeaaGreatDoorW.PrintLast Go.Proofs.YtikmfpjcdcckeaaGreatDoorW.PrintMore
attribute [local go_sem] max2_int min2_int max_two min_two max_three min_three max_four min_four
mutual
def walkmilllaw05_TenterNeeds.j0 : Nat → List (S36) → Int → Int → Bool → List (S43) → List Int → Int → Int → Option (Bool)
 | 0, _, _, _, _, _, _, _, _ => none
 | k + 1, x1, x2, x7, x38, x102000, x102001, x102002, x102003 => if x38 = true then ((walkmilllaw05_known.f).bind fun t104 => (some t104)) else ((walkmillref05_Copy.f x102000 x102001 x102002 x102003).bind fun bt105 => ((some (([] : List (S36)) : List (S36))).bind fun y113 => (if y113.length + x1.length < 8796093022208 then ((some (y113 ++ x1 : List (S36))).bind fun y116 => ((tenter_Need.f k bt105.1 bt105.2.1 bt105.2.2.1 bt105.2.2.2 y116 x2).bind fun bt120 => ((tenter_Order.f k bt105.1 bt105.2.1 bt105.2.2.1 bt105.2.2.2 y116 x2).bind fun bt122 => ((walkmillref05_Same.f k bt105.1 bt105.2.1 bt105.2.2.1 bt105.2.2.2 x102000 x102001 x102002 x102003).bind fun t126 => (if t126 = true then ((walkmillref05_Spans.f k y116 x1).bind fun t127 => (walkmilllaw05_TenterNeeds.j1 k x1 x2 x7 bt120.1 bt120.2 bt122.1 bt122.2 (!t127) x102000 x102001 x102002 x102003)) else (walkmilllaw05_TenterNeeds.j1 k x1 x2 x7 bt120.1 bt120.2 bt122.1 bt122.2 true x102000 x102001 x102002 x102003)))))) else (none))))
def walkmilllaw05_TenterNeeds.j1 : Nat → List (S36) → Int → Int → Int → Int → List Int → Int → Bool → List (S43) → List Int → Int → Int → Option (Bool)
 | 0, _, _, _, _, _, _, _, _, _, _, _, _ => none
 | k + 1, x1, x2, x7, x10, x11, x12, x13, x68, x102000, x102001, x102002, x102003 => if x68 = true then (some false) else (if x7 = 0 then (walkmilllaw05_TenterNeeds.l0 k x1 x2 x10 x11 x12 x13 (-1) (wrap64 ((x102000.length : Int) - 1)) x102000 x102001 x102002 x102003) else (if x11 = x7 then (if x13 = x7 then (if x10 = 0 then (if (x12.length : Int) = 0 then ((walkmilllaw05_known.f).bind fun t128 => (some t128)) else (some false)) else (some false)) else (some false)) else (some false)))
def walkmilllaw05_TenterNeeds.l0 : Nat → List (S36) → Int → Int → Int → List Int → Int → Int → Int → List (S43) → List Int → Int → Int → Option (Bool)
 | 0, _, _, _, _, _, _, _, _, _, _, _, _ => none
 | k + 1, x1, x2, x10, x11, x12, x13, x14, x15, x102000, x102001, x102002, x102003 => if x15 ≥ 0 then ((walkmillref05_Dry.f k x102000 x102001 x102002 x102003 x1 x15 0).bind fun bt129 => (if bt129.2 > x2 then (walkmilllaw05_TenterNeeds.l0 k x1 x2 x10 x11 x12 x13 x15 (wrap64 (x15 - 1)) x102000 x102001 x102002 x102003) else (walkmilllaw05_TenterNeeds.l0 k x1 x2 x10 x11 x12 x13 x14 (wrap64 (x15 - 1)) x102000 x102001 x102002 x102003))) else (if x14 ≥ 0 then (if x11 = 0 then (if x10 = x14 then (if x14 < 0 then (if x11 = 6 then (walkmilllaw05_TenterNeeds.j3 k x1 x2 x12 x13 (x10 != 0) x102000 x102001 x102002 x102003) else (walkmilllaw05_TenterNeeds.j3 k x1 x2 x12 x13 true x102000 x102001 x102002 x102003)) else (walkmilllaw05_TenterNeeds.j3 k x1 x2 x12 x13 false x102000 x102001 x102002 x102003)) else (walkmilllaw05_TenterNeeds.j3 k x1 x2 x12 x13 true x102000 x102001 x102002 x102003)) else (walkmilllaw05_TenterNeeds.j3 k x1 x2 x12 x13 true x102000 x102001 x102002 x102003)) else (if x14 < 0 then (if x11 = 6 then (walkmilllaw05_TenterNeeds.j3 k x1 x2 x12 x13 (x10 != 0) x102000 x102001 x102002 x102003) else (walkmilllaw05_TenterNeeds.j3 k x1 x2 x12 x13 true x102000 x102001 x102002 x102003)) else (walkmilllaw05_TenterNeeds.j3 k x1 x2 x12 x13 false x102000 x102001 x102002 x102003)))
def walkmilllaw05_TenterNeeds.j3 : Nat → List (S36) → Int → List Int → Int → Bool → List (S43) → List Int → Int → Int → Option (Bool)
 | 0, _, _, _, _, _, _, _, _, _ => none
 | k + 1, x1, x2, x12, x13, x129, x102000, x102001, x102002, x102003 => if x129 = true then (some false) else ((walkmillref05_Order.f k x102000 x102001 x102002 x102003 x1 x2).bind fun bt131 => (if bt131.2 = true then (if x13 = 0 then ((walkmillref05_Ints.f k x12 bt131.1).bind fun t135 => (if t135 = true then ((walkmilllaw05_known.f).bind fun t136 => (some t136)) else (some false))) else (some false)) else (if x13 = 9 then (if (x12.length : Int) = 0 then ((walkmilllaw05_known.f).bind fun t137 => (some t137)) else (some false)) else (some false))))
end
def walkmilllaw05_TenterNeeds.f (k : Nat) (l0_0 : List (S43)) (l0_1 : List Int) (a0_2 : Int) (a0_3 : Int) (l1 : List (S36)) (a2 : Int) : Option (Bool) := (walkmillref05_Weather.f k l0_0 l0_1 a0_2 a0_3 l1 a2).bind fun t102 => ((walkmilllaw05_large.f l0_0 l0_1 a0_2 a0_3).bind fun t103 => (if t103 = true then (walkmilllaw05_TenterNeeds.j0 k l1 a2 t102 true l0_0 l0_1 a0_2 a0_3) else (if (l1.length : Int) > 40 then (walkmilllaw05_TenterNeeds.j0 k l1 a2 t102 true l0_0 l0_1 a0_2 a0_3) else (if t102 = 0 then (walkmilllaw05_TenterNeeds.j0 k l1 a2 t102 (decide ((l0_0.length : Int) > 6)) l0_0 l0_1 a0_2 a0_3) else (walkmilllaw05_TenterNeeds.j0 k l1 a2 t102 false l0_0 l0_1 a0_2 a0_3)))))
theorem walkmilllaw05_TenterNeeds.mono_l : ∀ k, (∀ y0 y1 y2 y3 y4 y5 y6 y7, LeO (walkmilllaw05_TenterNeeds.j0 k y0 y1 y2 y3 y4 y5 y6 y7) (walkmilllaw05_TenterNeeds.j0 (k + 1) y0 y1 y2 y3 y4 y5 y6 y7)) ∧ (∀ y0 y1 y2 y3 y4 y5 y6 y7 y8 y9 y10 y11, LeO (walkmilllaw05_TenterNeeds.j1 k y0 y1 y2 y3 y4 y5 y6 y7 y8 y9 y10 y11) (walkmilllaw05_TenterNeeds.j1 (k + 1) y0 y1 y2 y3 y4 y5 y6 y7 y8 y9 y10 y11)) ∧ (∀ y0 y1 y2 y3 y4 y5 y6 y7 y8 y9 y10 y11, LeO (walkmilllaw05_TenterNeeds.l0 k y0 y1 y2 y3 y4 y5 y6 y7 y8 y9 y10 y11) (walkmilllaw05_TenterNeeds.l0 (k + 1) y0 y1 y2 y3 y4 y5 y6 y7 y8 y9 y10 y11)) ∧ (∀ y0 y1 y2 y3 y4 y5 y6 y7 y8, LeO (walkmilllaw05_TenterNeeds.j3 k y0 y1 y2 y3 y4 y5 y6 y7 y8) (walkmilllaw05_TenterNeeds.j3 (k + 1) y0 y1 y2 y3 y4 y5 y6 y7 y8))
 | 0 => ⟨fun _ _ _ _ _ _ _ _ r h => by simp [walkmilllaw05_TenterNeeds.j0] at h, fun _ _ _ _ _ _ _ _ _ _ _ _ r h => by simp [walkmilllaw05_TenterNeeds.j1] at h, fun _ _ _ _ _ _ _ _ _ _ _ _ r h => by simp [walkmilllaw05_TenterNeeds.l0] at h, fun _ _ _ _ _ _ _ _ _ r h => by simp [walkmilllaw05_TenterNeeds.j3] at h⟩
 | k + 1 => by
  obtain ⟨ih0, ih1, ih2, ih3⟩ := walkmilllaw05_TenterNeeds.mono_l k
  refine ⟨?_, ?_, ?_, ?_⟩
  ·intro y0 y1 y2 y3 y4 y5 y6 y7
   unfold walkmilllaw05_TenterNeeds.j0
   repeat' first
   | (with_reducible exact ih0 _ _ _ _ _ _ _ _)
   | (with_reducible exact ih1 _ _ _ _ _ _ _ _ _ _ _ _)
   | (with_reducible exact ih2 _ _ _ _ _ _ _ _ _ _ _ _)
   | (with_reducible exact ih3 _ _ _ _ _ _ _ _ _)
   | (with_reducible exact tenter_Need.mono _ _ _ _ _ _ _)
   | (with_reducible exact tenter_Order.mono _ _ _ _ _ _ _)
   | (with_reducible exact walkmillref05_Dry.mono _ _ _ _ _ _ _ _)
   | (with_reducible exact walkmillref05_Ints.mono _ _ _)
   | (with_reducible exact walkmillref05_Order.mono _ _ _ _ _ _ _)
   | (with_reducible exact walkmillref05_Same.mono _ _ _ _ _ _ _ _ _)
   | (with_reducible exact walkmillref05_Spans.mono _ _ _)
   | (with_reducible exact walkmillref05_Weather.mono _ _ _ _ _ _ _)
   | (with_reducible exact LeO.refl _)
   | (with_reducible exact LeO.none _)
   | (with_reducible refine LeO.ite ?_ ?_)
   | (with_reducible refine LeO.bind ?_ (fun _ => ?_))
   | exact ih0 _ _ _ _ _ _ _ _
   | exact ih1 _ _ _ _ _ _ _ _ _ _ _ _
   | exact ih2 _ _ _ _ _ _ _ _ _ _ _ _
   | exact ih3 _ _ _ _ _ _ _ _ _
   | exact tenter_Need.mono _ _ _ _ _ _ _
   | exact tenter_Order.mono _ _ _ _ _ _ _
   | exact walkmillref05_Dry.mono _ _ _ _ _ _ _ _
   | exact walkmillref05_Ints.mono _ _ _
   | exact walkmillref05_Order.mono _ _ _ _ _ _ _
   | exact walkmillref05_Same.mono _ _ _ _ _ _ _ _ _
   | exact walkmillref05_Spans.mono _ _ _
   | exact walkmillref05_Weather.mono _ _ _ _ _ _ _
   | exact LeO.none _
   | refine LeO.ite ?_ ?_
   | refine LeO.bind ?_ (fun _ => ?_)
  ·intro y0 y1 y2 y3 y4 y5 y6 y7 y8 y9 y10 y11
   unfold walkmilllaw05_TenterNeeds.j1
   repeat' first
   | (with_reducible exact ih0 _ _ _ _ _ _ _ _)
   | (with_reducible exact ih1 _ _ _ _ _ _ _ _ _ _ _ _)
   | (with_reducible exact ih2 _ _ _ _ _ _ _ _ _ _ _ _)
   | (with_reducible exact ih3 _ _ _ _ _ _ _ _ _)
   | (with_reducible exact tenter_Need.mono _ _ _ _ _ _ _)
   | (with_reducible exact tenter_Order.mono _ _ _ _ _ _ _)
   | (with_reducible exact walkmillref05_Dry.mono _ _ _ _ _ _ _ _)
   | (with_reducible exact walkmillref05_Ints.mono _ _ _)
   | (with_reducible exact walkmillref05_Order.mono _ _ _ _ _ _ _)
   | (with_reducible exact walkmillref05_Same.mono _ _ _ _ _ _ _ _ _)
   | (with_reducible exact walkmillref05_Spans.mono _ _ _)
   | (with_reducible exact walkmillref05_Weather.mono _ _ _ _ _ _ _)
   | (with_reducible exact LeO.refl _)
   | (with_reducible exact LeO.none _)
   | (with_reducible refine LeO.ite ?_ ?_)
   | (with_reducible refine LeO.bind ?_ (fun _ => ?_))
   | exact ih0 _ _ _ _ _ _ _ _
   | exact ih1 _ _ _ _ _ _ _ _ _ _ _ _
   | exact ih2 _ _ _ _ _ _ _ _ _ _ _ _
   | exact ih3 _ _ _ _ _ _ _ _ _
   | exact tenter_Need.mono _ _ _ _ _ _ _
   | exact tenter_Order.mono _ _ _ _ _ _ _
   | exact walkmillref05_Dry.mono _ _ _ _ _ _ _ _
   | exact walkmillref05_Ints.mono _ _ _
   | exact walkmillref05_Order.mono _ _ _ _ _ _ _
   | exact walkmillref05_Same.mono _ _ _ _ _ _ _ _ _
   | exact walkmillref05_Spans.mono _ _ _
   | exact walkmillref05_Weather.mono _ _ _ _ _ _ _
   | exact LeO.none _
   | refine LeO.ite ?_ ?_
   | refine LeO.bind ?_ (fun _ => ?_)
  ·intro y0 y1 y2 y3 y4 y5 y6 y7 y8 y9 y10 y11
   unfold walkmilllaw05_TenterNeeds.l0
   repeat' first
   | (with_reducible exact ih0 _ _ _ _ _ _ _ _)
   | (with_reducible exact ih1 _ _ _ _ _ _ _ _ _ _ _ _)
   | (with_reducible exact ih2 _ _ _ _ _ _ _ _ _ _ _ _)
   | (with_reducible exact ih3 _ _ _ _ _ _ _ _ _)
   | (with_reducible exact tenter_Need.mono _ _ _ _ _ _ _)
   | (with_reducible exact tenter_Order.mono _ _ _ _ _ _ _)
   | (with_reducible exact walkmillref05_Dry.mono _ _ _ _ _ _ _ _)
   | (with_reducible exact walkmillref05_Ints.mono _ _ _)
   | (with_reducible exact walkmillref05_Order.mono _ _ _ _ _ _ _)
   | (with_reducible exact walkmillref05_Same.mono _ _ _ _ _ _ _ _ _)
   | (with_reducible exact walkmillref05_Spans.mono _ _ _)
   | (with_reducible exact walkmillref05_Weather.mono _ _ _ _ _ _ _)
   | (with_reducible exact LeO.refl _)
   | (with_reducible exact LeO.none _)
   | (with_reducible refine LeO.ite ?_ ?_)
   | (with_reducible refine LeO.bind ?_ (fun _ => ?_))
   | exact ih0 _ _ _ _ _ _ _ _
   | exact ih1 _ _ _ _ _ _ _ _ _ _ _ _
   | exact ih2 _ _ _ _ _ _ _ _ _ _ _ _
   | exact ih3 _ _ _ _ _ _ _ _ _
   | exact tenter_Need.mono _ _ _ _ _ _ _
   | exact tenter_Order.mono _ _ _ _ _ _ _
   | exact walkmillref05_Dry.mono _ _ _ _ _ _ _ _
   | exact walkmillref05_Ints.mono _ _ _
   | exact walkmillref05_Order.mono _ _ _ _ _ _ _
   | exact walkmillref05_Same.mono _ _ _ _ _ _ _ _ _
   | exact walkmillref05_Spans.mono _ _ _
   | exact walkmillref05_Weather.mono _ _ _ _ _ _ _
   | exact LeO.none _
   | refine LeO.ite ?_ ?_
   | refine LeO.bind ?_ (fun _ => ?_)
  ·intro y0 y1 y2 y3 y4 y5 y6 y7 y8
   unfold walkmilllaw05_TenterNeeds.j3
   repeat' first
   | (with_reducible exact ih0 _ _ _ _ _ _ _ _)
   | (with_reducible exact ih1 _ _ _ _ _ _ _ _ _ _ _ _)
   | (with_reducible exact ih2 _ _ _ _ _ _ _ _ _ _ _ _)
   | (with_reducible exact ih3 _ _ _ _ _ _ _ _ _)
   | (with_reducible exact tenter_Need.mono _ _ _ _ _ _ _)
   | (with_reducible exact tenter_Order.mono _ _ _ _ _ _ _)
   | (with_reducible exact walkmillref05_Dry.mono _ _ _ _ _ _ _ _)
   | (with_reducible exact walkmillref05_Ints.mono _ _ _)
   | (with_reducible exact walkmillref05_Order.mono _ _ _ _ _ _ _)
   | (with_reducible exact walkmillref05_Same.mono _ _ _ _ _ _ _ _ _)
   | (with_reducible exact walkmillref05_Spans.mono _ _ _)
   | (with_reducible exact walkmillref05_Weather.mono _ _ _ _ _ _ _)
   | (with_reducible exact LeO.refl _)
   | (with_reducible exact LeO.none _)
   | (with_reducible refine LeO.ite ?_ ?_)
   | (with_reducible refine LeO.bind ?_ (fun _ => ?_))
   | exact ih0 _ _ _ _ _ _ _ _
   | exact ih1 _ _ _ _ _ _ _ _ _ _ _ _
   | exact ih2 _ _ _ _ _ _ _ _ _ _ _ _
   | exact ih3 _ _ _ _ _ _ _ _ _
   | exact tenter_Need.mono _ _ _ _ _ _ _
   | exact tenter_Order.mono _ _ _ _ _ _ _
   | exact walkmillref05_Dry.mono _ _ _ _ _ _ _ _
   | exact walkmillref05_Ints.mono _ _ _
   | exact walkmillref05_Order.mono _ _ _ _ _ _ _
   | exact walkmillref05_Same.mono _ _ _ _ _ _ _ _ _
   | exact walkmillref05_Spans.mono _ _ _
   | exact walkmillref05_Weather.mono _ _ _ _ _ _ _
   | exact LeO.none _
   | refine LeO.ite ?_ ?_
   | refine LeO.bind ?_ (fun _ => ?_)
theorem walkmilllaw05_TenterNeeds.dead_j1 : ∀ k y0 y1 y2 y3 y4 y5 y6 y8 y9 y10 y11 r, walkmilllaw05_TenterNeeds.j1 k y0 y1 y2 y3 y4 y5 y6 true y8 y9 y10 y11 = some r → r = true → False := by
 intro k y0 y1 y2 y3 y4 y5 y6 y8 y9 y10 y11 r h hr
 cases k with
 | zero => simp [walkmilllaw05_TenterNeeds.j1] at h
 | succ k => exact absurd ((Option.some.inj (show (some false : Option Bool) = some r from h)).trans hr) (by simp)
theorem walkmilllaw05_TenterNeeds.dead_j3 : ∀ k y0 y1 y2 y3 y5 y6 y7 y8 r, walkmilllaw05_TenterNeeds.j3 k y0 y1 y2 y3 true y5 y6 y7 y8 = some r → r = true → False := by
 intro k y0 y1 y2 y3 y5 y6 y7 y8 r h hr
 cases k with
 | zero => simp [walkmilllaw05_TenterNeeds.j3] at h
 | succ k => exact absurd ((Option.some.inj (show (some false : Option Bool) = some r from h)).trans hr) (by simp)
theorem walkmilllaw05_TenterNeeds.mono : ∀ a0 a1 a2 a3 a4 a5 k, LeO (walkmilllaw05_TenterNeeds.f k a0 a1 a2 a3 a4 a5) (walkmilllaw05_TenterNeeds.f (k + 1) a0 a1 a2 a3 a4 a5) := by
 intro a0 a1 a2 a3 a4 a5 k
 obtain ⟨ih0, ih1, ih2, ih3⟩ := walkmilllaw05_TenterNeeds.mono_l k
 unfold walkmilllaw05_TenterNeeds.f
 repeat' first
   | (with_reducible exact ih0 _ _ _ _ _ _ _ _)
   | (with_reducible exact ih1 _ _ _ _ _ _ _ _ _ _ _ _)
   | (with_reducible exact ih2 _ _ _ _ _ _ _ _ _ _ _ _)
   | (with_reducible exact ih3 _ _ _ _ _ _ _ _ _)
   | (with_reducible exact tenter_Need.mono _ _ _ _ _ _ _)
   | (with_reducible exact tenter_Order.mono _ _ _ _ _ _ _)
   | (with_reducible exact walkmillref05_Dry.mono _ _ _ _ _ _ _ _)
   | (with_reducible exact walkmillref05_Ints.mono _ _ _)
   | (with_reducible exact walkmillref05_Order.mono _ _ _ _ _ _ _)
   | (with_reducible exact walkmillref05_Same.mono _ _ _ _ _ _ _ _ _)
   | (with_reducible exact walkmillref05_Spans.mono _ _ _)
   | (with_reducible exact walkmillref05_Weather.mono _ _ _ _ _ _ _)
   | (with_reducible exact LeO.refl _)
   | (with_reducible exact LeO.none _)
   | (with_reducible refine LeO.ite ?_ ?_)
   | (with_reducible refine LeO.bind ?_ (fun _ => ?_))
   | exact ih0 _ _ _ _ _ _ _ _
   | exact ih1 _ _ _ _ _ _ _ _ _ _ _ _
   | exact ih2 _ _ _ _ _ _ _ _ _ _ _ _
   | exact ih3 _ _ _ _ _ _ _ _ _
   | exact tenter_Need.mono _ _ _ _ _ _ _
   | exact tenter_Order.mono _ _ _ _ _ _ _
   | exact walkmillref05_Dry.mono _ _ _ _ _ _ _ _
   | exact walkmillref05_Ints.mono _ _ _
   | exact walkmillref05_Order.mono _ _ _ _ _ _ _
   | exact walkmillref05_Same.mono _ _ _ _ _ _ _ _ _
   | exact walkmillref05_Spans.mono _ _ _
   | exact walkmillref05_Weather.mono _ _ _ _ _ _ _
   | exact LeO.none _
   | refine LeO.ite ?_ ?_
   | refine LeO.bind ?_ (fun _ => ?_)
set_option maxHeartbeats 8000000 in
set_option maxRecDepth 100000 in
theorem walkmilllaw05_TenterNeeds.calls_true (k : Nat) (A0_0 : Option Addr) (c0_0 : Nat) (l0_0 : List (S43)) (A0_1 : Option Addr) (c0_1 : Nat) (l0_1 : List Int) (a0_2 : Int) (a0_3 : Int) (A1 : Option Addr) (c1 : Nat) (l1 : List (S36)) (a2 : Int) (r : Bool) (w : World) (hr0_0 : Kd.C k43 w A0_0 l0_0.length l0_0) (hc0_0 : l0_0.length ≤ c0_0) (hr0_1 : Kd.C (Kd.int .i64) w A0_1 l0_1.length l0_1) (hc0_1 : l0_1.length ≤ c0_1) (hr1 : Kd.C k36 w A1 l1.length l1) (hc1 : l1.length ≤ c1) (hrt : r = true) (hLd : LaidT w) (h : walkmilllaw05_TenterNeeds.f k l0_0 l0_1 a0_2 a0_3 l1 a2 = some r) :
  Calls Tryz.prog 9 #[.agg #[.slice A0_0 l0_0.length c0_0, .slice A0_1 l0_1.length c0_1, .int .i64 a0_2, .int .i64 a0_3], .slice A1 l1.length c1, .int .i64 a2] w fun e w' => e = .returned (.bool r) ∧ Below w.heap.size w w' := by
 have hfd36_1 : ∀ (x0_ x1_ : Value) (W_ : World), (Instr.field 36 (.agg #[x0_, x1_]) 1).run Tryz.prog W_ = .ok (x1_) W_ := fun _ _ _ => by kernel_rfl
 have hu25 := Tryz.underlying25
 have HRT := Aside0.mk hrt
 clear hrt
 have HR0_0 := Aside0.mk hr0_0
 have HC0_0 := Aside0.mk hc0_0
 clear hr0_0 hc0_0
 have HR0_1 := Aside0.mk hr0_1
 have HC0_1 := Aside0.mk hc0_1
 clear hr0_1 hc0_1
 have HR1 := Aside0.mk hr1
 have HC1 := Aside0.mk hc1
 clear hr1 hc1
 have HLd := Aside0.mk hLd
 clear hLd
 have HB := Aside0.mk (Below.refl w.heap.size w)
 have H : ((walkmillref05_Weather.f k l0_0 l0_1 a0_2 a0_3 l1 a2).bind fun t102 => ((walkmilllaw05_large.f l0_0 l0_1 a0_2 a0_3).bind fun t103 => (if t103 = true then (walkmilllaw05_TenterNeeds.j0 k l1 a2 t102 true l0_0 l0_1 a0_2 a0_3) else (if (l1.length : Int) > 40 then (walkmilllaw05_TenterNeeds.j0 k l1 a2 t102 true l0_0 l0_1 a0_2 a0_3) else (if t102 = 0 then (walkmilllaw05_TenterNeeds.j0 k l1 a2 t102 (decide ((l0_0.length : Int) > 6)) l0_0 l0_1 a0_2 a0_3) else (walkmilllaw05_TenterNeeds.j0 k l1 a2 t102 false l0_0 l0_1 a0_2 a0_3)))))) = some r := h
 clear h
 obtain ⟨t102, A4, H⟩ := bi H
 have HC5 := Aside0.mk H
 clear H
 go_enter Tryz.func9, Tryz.ntmps9
 go_upto_region 2 with (first | ((with_reducible refine gate_dst (N := 3) rfl ?_); (try (refine gate_guard (by rfl) ?_; dsimp only)); refine bx 3 #[.slice A0_0 l0_0.length c0_0, .slice A0_1 l0_1.length c0_1, .int .i64 a0_2, .int .i64 a0_3] 25 ?_; intro gb101 hg w6 hbox hb; have BK101 := hbox; have GW101 := gs HB hg; have GE101 := gs HB hg; replace HB := bs HB hb; clear hb hbox hg; obtain ⟨hcz7_0, hcz7_1, hcz7_2, hcz7_3, hfz7_0, hfz7_1, hfz7_2, hfz7_3⟩ := cf4 BK101) | ((with_reducible refine gc 36 rfl ?_); refine gL 21 Tryz.func36 #[.agg #[.slice A0_0 l0_0.length c0_0, .slice A0_1 l0_1.length c0_1, .int .i64 a0_2, .int .i64 a0_3], .slice A1 l1.length c1, .int .i64 a2] ?_; (with_reducible refine (walkmillref05_Weather.calls k _ _ l0_0 _ _ l0_1 a0_2 a0_3 _ _ l1 a2 t102 _ ?side1 ?side2 ?side3 ?side4 ?side5 ?side6 A4.out).mono ?_); (case side1 => exact pC (Kd.C_below HR0_0.out HB.out)); (case side2 => exact HC0_0.out); (case side3 => exact pC (Kd.C_below HR0_1.out HB.out)); (case side4 => exact HC0_1.out); (case side5 => exact pC (Kd.C_below HR1.out HB.out)); (case side6 => exact HC1.out); rintro e w8 ⟨rfl, hb⟩; refine ⟨_, rfl, ?_⟩; replace BK101 := bb BK101 hb; replace HB := bs HB hb; clear hb))
 (try simp only [Act.put, List.setIfInBounds_toArray, List.set_cons_zero, List.set_cons_succ])
 go_cut [38] (fun v38 wc => ∃ (kq : Nat) (x38_4 : Bool), v38 = .bool x38_4 ∧ Aside0 (walkmilllaw05_TenterNeeds.j0 kq l1 a2 t102 x38_4 l0_0 l0_1 a0_2 a0_3 = some r) ∧ Aside0 (kq ≤ k) ∧ Aside0 (wc.heap[gb101]? = some (.cells #[(.slice A0_0 l0_0.length c0_0), (.slice A0_1 l0_1.length c0_1), .int .i64 a0_2, .int .i64 a0_3] 25 (0, 0))) ∧ Aside0 (Below w.heap.size w wc))
 case first =>
  have H := HC5.out
  clear HC5
  obtain ⟨t103, A9, H⟩ := bi H
  by_cases c10 : t103 = true
  ·subst c10
   rw [if_pos rfl] at H
   have H' := Aside0.mk H
   clear H
   obtain ⟨hcz11_0, hcz11_1, hcz11_2, hcz11_3, hfz11_0, hfz11_1, hfz11_2, hfz11_3⟩ := cf4 BK101
   go_wp2_with (first | ((with_reducible refine gc 12 rfl ?_); refine gL 23 Tryz.func12 #[.agg #[.slice A0_0 l0_0.length c0_0, .slice A0_1 l0_1.length c0_1, .int .i64 a0_2, .int .i64 a0_3]] ?_; (with_reducible refine (walkmilllaw05_large.calls _ _ l0_0 _ _ l0_1 a0_2 a0_3 true _ ?side1 ?side2 ?side3 ?side4 A9.out).mono ?_); (case side1 => exact pC (Kd.C_below HR0_0.out HB.out)); (case side2 => exact HC0_0.out); (case side3 => exact pC (Kd.C_below HR0_1.out HB.out)); (case side4 => exact HC0_1.out); rintro e w12 ⟨rfl, hb⟩; refine ⟨_, rfl, ?_⟩; replace BK101 := bb BK101 hb; replace HB := bs HB hb; clear hb))
   go_meet
   case rel => exact ⟨_, (true), (by first | rfl | (simp; done) | (simp [*]; done)), H', ⟨by first | omega | exact Nat.le_refl _⟩, ⟨by (with_reducible repeat (first | refine blk_drewN ?_ _ | refine blk_drew ?_ | refine blk_alloc ?_ _)); exact BK101.out⟩, ⟨pE HB⟩⟩
  ·replace c10 := Bool.eq_false_iff.mpr c10
   subst c10
   rw [if_neg (show ¬ (false = true) by decide)] at H
   by_cases c13 : (l1.length : Int) > 40
   ·rw [if_pos c13] at H
    have c13b0 : decide (40 < (l1.length : Int)) = true := decide_eq_true c13
    have c13b1 : decide (40 < l1.length) = true := decide_eq_true (by omega)
    clear c13
    (first | rw [c13b0] | (simp only [i64_w, i32_w]; rw [c13b0]) | skip)
    have H' := Aside0.mk H
    clear H
    obtain ⟨hcz14_0, hcz14_1, hcz14_2, hcz14_3, hfz14_0, hfz14_1, hfz14_2, hfz14_3⟩ := cf4 BK101
    go_wp2_with (first | ((with_reducible refine gc 12 rfl ?_); refine gL 23 Tryz.func12 #[.agg #[.slice A0_0 l0_0.length c0_0, .slice A0_1 l0_1.length c0_1, .int .i64 a0_2, .int .i64 a0_3]] ?_; (with_reducible refine (walkmilllaw05_large.calls _ _ l0_0 _ _ l0_1 a0_2 a0_3 false _ ?side1 ?side2 ?side3 ?side4 A9.out).mono ?_); (case side1 => exact pC (Kd.C_below HR0_0.out HB.out)); (case side2 => exact HC0_0.out); (case side3 => exact pC (Kd.C_below HR0_1.out HB.out)); (case side4 => exact HC0_1.out); rintro e w15 ⟨rfl, hb⟩; refine ⟨_, rfl, ?_⟩; replace BK101 := bb BK101 hb; replace HB := bs HB hb; clear hb))
    go_meet
    case rel => exact ⟨_, (true), (by first | rfl | (simp; done) | (simp [*]; done)), H', ⟨by first | omega | exact Nat.le_refl _⟩, ⟨by (with_reducible repeat (first | refine blk_drewN ?_ _ | refine blk_drew ?_ | refine blk_alloc ?_ _)); exact BK101.out⟩, ⟨pE HB⟩⟩
   ·rw [if_neg c13] at H
    have c13b0 : decide (40 < (l1.length : Int)) = false := decide_eq_false c13
    have c13b1 : decide (40 < l1.length) = false := decide_eq_false (by omega)
    clear c13
    (first | rw [c13b0] | (simp only [i64_w, i32_w]; rw [c13b0]) | skip)
    by_cases c16 : t102 = 0
    ·rw [if_pos c16] at H
     have c16b0 : (t102 == 0) = true := beq_iff_eq.mpr c16
     have c16b1 : (t102 != 0) = false := bne_eq_false_iff_eq.mpr c16
     clear c16
     have H' := Aside0.mk H
     clear H
     obtain ⟨hcz17_0, hcz17_1, hcz17_2, hcz17_3, hfz17_0, hfz17_1, hfz17_2, hfz17_3⟩ := cf4 BK101
     go_wp2_with (first | ((with_reducible refine gc 12 rfl ?_); refine gL 23 Tryz.func12 #[.agg #[.slice A0_0 l0_0.length c0_0, .slice A0_1 l0_1.length c0_1, .int .i64 a0_2, .int .i64 a0_3]] ?_; (with_reducible refine (walkmilllaw05_large.calls _ _ l0_0 _ _ l0_1 a0_2 a0_3 false _ ?side1 ?side2 ?side3 ?side4 A9.out).mono ?_); (case side1 => exact pC (Kd.C_below HR0_0.out HB.out)); (case side2 => exact HC0_0.out); (case side3 => exact pC (Kd.C_below HR0_1.out HB.out)); (case side4 => exact HC0_1.out); rintro e w18 ⟨rfl, hb⟩; refine ⟨_, rfl, ?_⟩; replace BK101 := bb BK101 hb; replace HB := bs HB hb; clear hb; obtain ⟨hcz19_0, hcz19_1, hcz19_2, hcz19_3, hfz19_0, hfz19_1, hfz19_2, hfz19_3⟩ := cf4 BK101))
     go_meet
     case rel => exact ⟨_, (decide ((l0_0.length : Int) > 6)), (by first | rfl | (simp; done) | (simp [*]; done)), H', ⟨by first | omega | exact Nat.le_refl _⟩, ⟨by (with_reducible repeat (first | refine blk_drewN ?_ _ | refine blk_drew ?_ | refine blk_alloc ?_ _)); exact BK101.out⟩, ⟨pE HB⟩⟩
    ·rw [if_neg c16] at H
     have c16b0 : (t102 == 0) = false := beq_eq_false_iff_ne.mpr c16
     have c16b1 : (t102 != 0) = true := bne_iff_ne.mpr c16
     have H' := Aside0.mk H
     clear H
     obtain ⟨hcz20_0, hcz20_1, hcz20_2, hcz20_3, hfz20_0, hfz20_1, hfz20_2, hfz20_3⟩ := cf4 BK101
     go_wp2_with (first | ((with_reducible refine gc 12 rfl ?_); refine gL 23 Tryz.func12 #[.agg #[.slice A0_0 l0_0.length c0_0, .slice A0_1 l0_1.length c0_1, .int .i64 a0_2, .int .i64 a0_3]] ?_; (with_reducible refine (walkmilllaw05_large.calls _ _ l0_0 _ _ l0_1 a0_2 a0_3 false _ ?side1 ?side2 ?side3 ?side4 A9.out).mono ?_); (case side1 => exact pC (Kd.C_below HR0_0.out HB.out)); (case side2 => exact HC0_0.out); (case side3 => exact pC (Kd.C_below HR0_1.out HB.out)); (case side4 => exact HC0_1.out); rintro e w21 ⟨rfl, hb⟩; refine ⟨_, rfl, ?_⟩; replace BK101 := bb BK101 hb; replace HB := bs HB hb; clear hb))
     go_meet
     case rel => exact ⟨_, (false), (by first | rfl | (simp; done) | (simp [*]; done)), H', ⟨by first | omega | exact Nat.le_refl _⟩, ⟨by (with_reducible repeat (first | refine blk_drewN ?_ _ | refine blk_drew ?_ | refine blk_alloc ?_ _)); exact BK101.out⟩, ⟨pE HB⟩⟩
 case rest =>
  clear HC5
  try clear c1
  try clear p2
  try clear c3
  try clear c9
  try clear c10
  try clear c12
  try clear c13
  try clear c13b0
  try clear c13b1
  try clear c16
  try clear c16b0
  try clear c16b1
  try clear hcz11_0
  try clear hcz11_1
  try clear hcz11_2
  try clear hcz11_3
  try clear hcz14_0
  try clear hcz14_1
  try clear hcz14_2
  try clear hcz14_3
  try clear hcz17_0
  try clear hcz17_1
  try clear hcz17_2
  try clear hcz17_3
  try clear hcz19_0
  try clear hcz19_1
  try clear hcz19_2
  try clear hcz19_3
  try clear hcz20_0
  try clear hcz20_1
  try clear hcz20_2
  try clear hcz20_3
  try clear hcz7_0
  try clear hcz7_1
  try clear hcz7_2
  try clear hcz7_3
  try clear hfz11_0
  try clear hfz11_1
  try clear hfz11_2
  try clear hfz11_3
  try clear hfz14_0
  try clear hfz14_1
  try clear hfz14_2
  try clear hfz14_3
  try clear hfz17_0
  try clear hfz17_1
  try clear hfz17_2
  try clear hfz17_3
  try clear hfz19_0
  try clear hfz19_1
  try clear hfz19_2
  try clear hfz19_3
  try clear hfz20_0
  try clear hfz20_1
  try clear hfz20_2
  try clear hfz20_3
  try clear hfz7_0
  try clear hfz7_1
  try clear hfz7_2
  try clear hfz7_3
  obtain ⟨kq, x38_4, rfl, HA, HJ4, BK101, HB⟩ := hcut
  cases kq with
  | zero => exact absurd HA.out (by simp [walkmilllaw05_TenterNeeds.j0])
  | succ kj4 =>
   have H := HA.out
   clear HA
   simp only [walkmilllaw05_TenterNeeds.j0] at H
   by_cases c22 : x38_4 = true
   ·subst c22
    rw [if_pos rfl] at H
    obtain ⟨t104, A23, H⟩ := bi H
    obtain rfl := Option.some.inj H
    go_wp2_with (first | ((with_reducible refine gc 13 rfl ?_); refine gL 39 Tryz.func13 #[] ?_; (with_reducible refine (walkmilllaw05_known.calls t104 _ A23.out (LaidT.below HLd.out (pE HB))).mono ?_); rintro e w24 ⟨rfl, hb⟩; refine ⟨_, rfl, ?_⟩; replace BK101 := bb BK101 hb; replace HB := bs HB hb; clear hb))
    go_ret
    exact ⟨eT, pE HB⟩
   ·replace c22 := Bool.eq_false_iff.mpr c22
    subst c22
    rw [if_neg (show ¬ (false = true) by decide)] at H
    obtain ⟨⟨t105, t108, t111, t112⟩, A25, H⟩ := bi H
    obtain ⟨y113, hy113⟩ : ∃ y_ : List (S36), y_ = (([] : List (S36))) := ⟨_, rfl⟩
    replace H : (if y113.length + l1.length < 8796093022208 then ((some (y113 ++ l1 : List (S36))).bind fun y116 => ((tenter_Need.f kj4 t105 t108 t111 t112 y116 a2).bind fun bt120 => ((tenter_Order.f kj4 t105 t108 t111 t112 y116 a2).bind fun bt122 => ((walkmillref05_Same.f kj4 t105 t108 t111 t112 l0_0 l0_1 a0_2 a0_3).bind fun t126 => (if t126 = true then ((walkmillref05_Spans.f kj4 y116 l1).bind fun t127 => (walkmilllaw05_TenterNeeds.j1 kj4 l1 a2 t102 bt120.1 bt120.2 bt122.1 bt122.2 (!t127) l0_0 l0_1 a0_2 a0_3)) else (walkmilllaw05_TenterNeeds.j1 kj4 l1 a2 t102 bt120.1 bt120.2 bt122.1 bt122.2 true l0_0 l0_1 a0_2 a0_3)))))) else (none)) = some r := yy hy113 H
    have Ny113 := Aside0.mk hy113
    clear hy113
    by_cases c26 : y113.length + l1.length < 8796093022208
    ·rw [if_pos c26] at H
     have LMc26 := Aside0.mk c26
     clear c26
     obtain ⟨y116, hy116⟩ : ∃ y_ : List (S36), y_ = (y113 ++ l1) := ⟨_, rfl⟩
     replace H : ((tenter_Need.f kj4 t105 t108 t111 t112 y116 a2).bind fun bt120 => ((tenter_Order.f kj4 t105 t108 t111 t112 y116 a2).bind fun bt122 => ((walkmillref05_Same.f kj4 t105 t108 t111 t112 l0_0 l0_1 a0_2 a0_3).bind fun t126 => (if t126 = true then ((walkmillref05_Spans.f kj4 y116 l1).bind fun t127 => (walkmilllaw05_TenterNeeds.j1 kj4 l1 a2 t102 bt120.1 bt120.2 bt122.1 bt122.2 (!t127) l0_0 l0_1 a0_2 a0_3)) else (walkmilllaw05_TenterNeeds.j1 kj4 l1 a2 t102 bt120.1 bt120.2 bt122.1 bt122.2 true l0_0 l0_1 a0_2 a0_3))))) = some r := yy hy116 H
     have Ny116 := Aside0.mk hy116
     clear hy116
     obtain ⟨⟨t120, t121⟩, A27, H⟩ := bi H
     obtain ⟨⟨t122, t125⟩, A28, H⟩ := bi H
     have HC29 := Aside0.mk H
     clear H
     obtain ⟨hcz30_0, hcz30_1, hcz30_2, hcz30_3, hfz30_0, hfz30_1, hfz30_2, hfz30_3⟩ := cf4 BK101
     go_upto_region 7 with (first | ((with_reducible refine gc 14 rfl ?_); refine gL 41 Tryz.func14 #[.agg #[.slice A0_0 l0_0.length c0_0, .slice A0_1 l0_1.length c0_1, .int .i64 a0_2, .int .i64 a0_3]] ?_; (with_reducible refine (walkmillref05_Copy.calls _ _ l0_0 _ _ l0_1 a0_2 a0_3 t105 t108 t111 t112 _ ?side1 ?side2 ?side3 ?side4 A25.out).mono ?_); (case side1 => exact pC (Kd.C_below HR0_0.out HB.out)); (case side2 => exact HC0_0.out); (case side3 => exact pC (Kd.C_below HR0_1.out HB.out)); (case side4 => exact HC0_1.out); rintro e w31 ⟨v106, v109, rfl, ho0, ho1, hb⟩; refine ⟨_, rfl, ?_⟩; have HO107 := rl ho0 HB; have HO110 := rl ho1 HB; replace BK101 := bb BK101 hb; replace HB := bs HB hb; clear hb ho0 ho1) | ((with_reducible refine gate_dst (N := 42) rfl ?_); (try (refine gate_guard (by rfl) ?_; dsimp only)); refine Kd.R_lit k36 _ 36 ?hg (N := 42) ?hd (xs := ([] : List (S36))) (inner := []) (ok := fun _ => True) (okp := fun _ => True) ?hr ?hp (fun _ hk => hk) trivial (Below.refl _ _) (Nat.le_refl _) (by simp) ?_; (case hd => rfl); (case hg => rfl); (case hr => first | (go_simp; done) | (go_simp; rfl)); (case hp => exact (Reps.none _ _)); intro v114 w32 ho33 hb hg_ hnew_; clear hg_ hnew_; (first | rw [← Ny113.out] at ho33 | (simp only [Int.reduceToNat] at ho33; rw [← Ny113.out] at ho33)); replace HO107 := rb HO107 hb; replace HO110 := rb HO110 hb; have HO115 := rl ho33 HB; replace BK101 := bb BK101 hb; replace HB := bs HB hb; clear hb ho33) | ((with_reducible refine gate_builtin (b := .append) (xs := #[.tmp 42, .tmp 43]) rfl ?_); (try (refine gate_guard (by rfl) ?_; dsimp only)); at_builtin; refine Kd.R_append_rows k36 (w0 := w) w.heap.size rfl (.tmp 42) (.tmp 43) 31 36 (.agg #[(.int .i64 0), (.int .i64 0)]) 16 rfl Tryz.underlying31 info36 rfl (by decide) (by omega) v114 y113 l1 _ _ _ (fun _ => True) (fun _ => False) rfl rfl ?aO ?aR (fun _ _ h => h) (fun _ h => h.elim) ?aF ?aB ?aS ?aL ?_; (case aR => exact pC (Kd.C_below HR1.out HB.out)); (case aB => exact (pE HB)); (case aF => exact (fun _ _ => trivial)); (case aO => exact (pR HO115.out)); (case aS => exact (below_size (pE HB))); (case aL => have := LMc26.out; omega); intro v117 w34 ho hb hg hat; rw [← Ny116.out] at ho; replace BK101 := Aside0.mk (blk_grown (g := gb101) (o := .cells #[.slice A0_0 l0_0.length c0_0, .slice A0_1 l0_1.length c0_1, .int .i64 a0_2, .int .i64 a0_3] 25 (0, 0)) (pB BK101.out) hg (Kd.R_ne HO115.out BK101.out (by decide))); replace HO107 := Aside0.mk (Kd.R_over' (pR HO107.out) (Kd.R_typed (pR HO115.out)) (by decide) hg); replace HO110 := Aside0.mk (Kd.R_over' (pR HO110.out) (Kd.R_typed (pR HO115.out)) (by decide) hg); replace HB := Aside0.mk (hb); have HO118 := Aside0.mk (ho); clear HO115; clear ho hb hg hat) | ((with_reducible refine gate_dst (N := 8) rfl ?_); (try (refine gate_guard (by rfl) ?_; dsimp only)); refine bx 8 #[.slice none 0 0, .slice none 0 0, .int .i64 0, .int .i64 0] 25 ?_; intro gb119 hg w35 hbox hb; replace HO107 := rb HO107 hb; replace HO110 := rb HO110 hb; replace HO118 := rb HO118 hb; have BK119 := hbox; have GW119 := gs HB hg; have GE119 := gs HB hg; replace HB := bs HB hb; have NB101_119 := nl BK101 hg; have NB119_101 := nr BK101 hg; replace BK101 := bb BK101 hb; clear hb hbox hg; obtain ⟨Ao36, co36, eo36⟩ := Kd.R_slice HO107.out; subst eo36; have hnb37 := NB119_101.out; have hnc37 := NB101_119.out; obtain ⟨hcz38_0, hcz38_1, hcz38_2, hcz38_3, hfz38_0, hfz38_1, hfz38_2, hfz38_3⟩ := cf4 BK119; obtain ⟨Ao39, co39, eo39⟩ := Kd.R_slice HO110.out; subst eo39; obtain ⟨Ao40, co40, eo40⟩ := Kd.R_slice HO118.out; subst eo40) | ((with_reducible refine gc 38 rfl ?_); refine gL 49 Tryz.func38 #[.agg #[.slice Ao36 t105.length co36, .slice Ao39 t108.length co39, .int .i64 t111, .int .i64 t112], .slice Ao40 y116.length co40, .int .i64 a2] ?_; (with_reducible refine (tenter_Need.calls kj4 _ _ t105 _ _ t108 t111 t112 _ _ y116 a2 t120 t121 _ ?side1 ?side2 ?side3 ?side4 ?side5 ?side6 A27.out).mono ?_); (case side1 => refine (Kd.R_reads' (e := 43) (base := w.heap.size) (ok := fun k_ => True) (n := t105.length) (c := co36) ?_).2.2; exact (by refine pR ?_; exact (Kd.R_mono (Kd.R_far (p := ⟨gb119, 3, none⟩) (Kd.R_far (p := ⟨gb119, 2, none⟩) (Kd.R_far (p := ⟨gb119, 1, none⟩) (Kd.R_far (p := ⟨gb119, 0, none⟩) (Kd.R_types HO107.out BK119.out (by decide)) (fun _ hk => hk.2) (.slice Ao36 t105.length co36)) (fun _ hk => hk.2) (.slice Ao39 t108.length co39)) (fun _ hk => hk.2) (.int .i64 t111)) (fun _ hk => hk.2) (.int .i64 t112)) (fun _ h_ => h_.1)))); (case side2 => exact (Kd.R_reads' HO107.out).2.1); (case side3 => refine (Kd.R_reads' (e := 3) (base := w.heap.size) (ok := fun k_ => True) (n := t108.length) (c := co39) ?_).2.2; exact (by refine pR ?_; exact (Kd.R_mono (Kd.R_far (p := ⟨gb119, 3, none⟩) (Kd.R_far (p := ⟨gb119, 2, none⟩) (Kd.R_far (p := ⟨gb119, 1, none⟩) (Kd.R_far (p := ⟨gb119, 0, none⟩) (Kd.R_types HO110.out BK119.out (by decide)) (fun _ hk => hk.2) (.slice Ao36 t105.length co36)) (fun _ hk => hk.2) (.slice Ao39 t108.length co39)) (fun _ hk => hk.2) (.int .i64 t111)) (fun _ hk => hk.2) (.int .i64 t112)) (fun _ h_ => h_.1)))); (case side4 => exact (Kd.R_reads' HO110.out).2.1); (case side5 => refine (Kd.R_reads' (e := 36) (base := w.heap.size) (ok := fun k_ => True) (n := y116.length) (c := co40) ?_).2.2; exact (by refine pR ?_; exact (Kd.R_mono (Kd.R_far (p := ⟨gb119, 3, none⟩) (Kd.R_far (p := ⟨gb119, 2, none⟩) (Kd.R_far (p := ⟨gb119, 1, none⟩) (Kd.R_far (p := ⟨gb119, 0, none⟩) (Kd.R_types HO118.out BK119.out (by decide)) (fun _ hk => hk.2) (.slice Ao36 t105.length co36)) (fun _ hk => hk.2) (.slice Ao39 t108.length co39)) (fun _ hk => hk.2) (.int .i64 t111)) (fun _ hk => hk.2) (.int .i64 t112)) (fun _ h_ => h_.1)))); (case side6 => exact (Kd.R_reads' HO118.out).2.1); rintro e w41 ⟨rfl, hb⟩; refine ⟨_, rfl, ?_⟩; replace HO107 := Aside0.mk (Kd.R_below (by refine pR ?_; exact (Kd.R_mono (Kd.R_far (p := ⟨gb119, 3, none⟩) (Kd.R_far (p := ⟨gb119, 2, none⟩) (Kd.R_far (p := ⟨gb119, 1, none⟩) (Kd.R_far (p := ⟨gb119, 0, none⟩) (Kd.R_types HO107.out BK119.out (by decide)) (fun _ hk => hk.2) (.slice Ao36 t105.length co36)) (fun _ hk => hk.2) (.slice Ao39 t108.length co39)) (fun _ hk => hk.2) (.int .i64 t111)) (fun _ hk => hk.2) (.int .i64 t112)) (fun _ h_ => h_.1))) hb); replace HO110 := Aside0.mk (Kd.R_below (by refine pR ?_; exact (Kd.R_mono (Kd.R_far (p := ⟨gb119, 3, none⟩) (Kd.R_far (p := ⟨gb119, 2, none⟩) (Kd.R_far (p := ⟨gb119, 1, none⟩) (Kd.R_far (p := ⟨gb119, 0, none⟩) (Kd.R_types HO110.out BK119.out (by decide)) (fun _ hk => hk.2) (.slice Ao36 t105.length co36)) (fun _ hk => hk.2) (.slice Ao39 t108.length co39)) (fun _ hk => hk.2) (.int .i64 t111)) (fun _ hk => hk.2) (.int .i64 t112)) (fun _ h_ => h_.1))) hb); replace HO118 := Aside0.mk (Kd.R_below (by refine pR ?_; exact (Kd.R_mono (Kd.R_far (p := ⟨gb119, 3, none⟩) (Kd.R_far (p := ⟨gb119, 2, none⟩) (Kd.R_far (p := ⟨gb119, 1, none⟩) (Kd.R_far (p := ⟨gb119, 0, none⟩) (Kd.R_types HO118.out BK119.out (by decide)) (fun _ hk => hk.2) (.slice Ao36 t105.length co36)) (fun _ hk => hk.2) (.slice Ao39 t108.length co39)) (fun _ hk => hk.2) (.int .i64 t111)) (fun _ hk => hk.2) (.int .i64 t112)) (fun _ h_ => h_.1))) hb); replace BK101 := bf BK101 hb; replace BK119 := Aside0.mk (blk_below (g := gb119) (o := .cells #[.slice Ao36 t105.length co36, .slice Ao39 t108.length co39, .int .i64 t111, .int .i64 t112] 25 (0, 0)) (by refine pB ?_; refine blk_put (cs := #[.slice Ao36 t105.length co36, .slice Ao39 t108.length co39, .int .i64 t111, .int .i64 0]) ?_ 3 _ rfl; refine pB ?_; refine blk_put (cs := #[.slice Ao36 t105.length co36, .slice Ao39 t108.length co39, .int .i64 0, .int .i64 0]) ?_ 2 _ rfl; refine pB ?_; refine blk_put (cs := #[.slice Ao36 t105.length co36, .slice none 0 0, .int .i64 0, .int .i64 0]) ?_ 1 _ rfl; refine pB ?_; refine blk_put (cs := #[.slice none 0 0, .slice none 0 0, .int .i64 0, .int .i64 0]) ?_ 0 _ rfl; (with_reducible repeat (first | refine blk_drewN ?_ _ | refine blk_drew ?_ | refine blk_alloc ?_ _)); exact BK119.out) hb); replace HB := bs HB hb; clear hb; obtain ⟨hcz42_0, hcz42_1, hcz42_2, hcz42_3, hfz42_0, hfz42_1, hfz42_2, hfz42_3⟩ := cf4 BK119) | ((with_reducible refine gc 39 rfl ?_); refine gL 56 Tryz.func39 #[.agg #[.slice Ao36 t105.length co36, .slice Ao39 t108.length co39, .int .i64 t111, .int .i64 t112], .slice Ao40 y116.length co40, .int .i64 a2] ?_; (with_reducible refine (tenter_Order.calls kj4 _ _ t105 _ _ t108 t111 t112 _ _ y116 a2 t122 t125 _ ?side1 ?side2 ?side3 ?side4 ?side5 ?side6 A28.out).mono ?_); (case side1 => exact pC (Kd.R_reads' HO107.out).2.2); (case side2 => exact (Kd.R_reads' HO107.out).2.1); (case side3 => exact pC (Kd.R_reads' HO110.out).2.2); (case side4 => exact (Kd.R_reads' HO110.out).2.1); (case side5 => exact pC (Kd.R_reads' HO118.out).2.2); (case side6 => exact (Kd.R_reads' HO118.out).2.1); rintro e w43 ⟨v123, rfl, ho0, hb⟩; refine ⟨_, rfl, ?_⟩; replace HO107 := rb HO107 hb; replace HO118 := rb HO118 hb; have HO124 := Aside0.mk (Kd.R_lower (Kd.R_new' ho0 (Kd.R_lt (pR HO110.out))) (below_size (pE HB))); replace HO110 := re HO110 ho0 hb; replace BK101 := bb BK101 hb; replace BK119 := bb BK119 hb; replace HB := bs HB hb; clear hb ho0))
     (try simp only [Act.put, List.setIfInBounds_toArray, List.set_cons_zero, List.set_cons_succ])
     go_cut [68] (fun v68 wc => ∃ (kq : Nat) (x68_28 : Bool), v68 = .bool x68_28 ∧ Aside0 (walkmilllaw05_TenterNeeds.j1 kq l1 a2 t102 t120 t121 t122 t125 x68_28 l0_0 l0_1 a0_2 a0_3 = some r) ∧ Aside0 (kq ≤ kj4) ∧ Aside0 (Kd.R (Kd.int .i64) 3 wc w.heap.size (fun k_ => some k_ ≠ ((.slice Ao39 t108.length co39) : Value).ownBlock) v123 t122) ∧ Aside0 (Kd.R k43 43 wc w.heap.size (fun _ => True) (.slice Ao36 t105.length co36) t105) ∧ Aside0 (Kd.R (Kd.int .i64) 3 wc w.heap.size (fun k_ => some k_ ≠ (v123 : Value).ownBlock) (.slice Ao39 t108.length co39) t108) ∧ Aside0 (wc.heap[gb101]? = some (.cells #[(.slice A0_0 l0_0.length c0_0), (.slice A0_1 l0_1.length c0_1), .int .i64 a0_2, .int .i64 a0_3] 25 (0, 0))) ∧ Aside0 (wc.heap[gb119]? = some (.cells #[(.slice Ao36 t105.length co36), (.slice Ao39 t108.length co39), .int .i64 t111, .int .i64 t112] 25 (0, 0))) ∧ Aside0 (Below w.heap.size w wc))
     case first =>
      have H := HC29.out
      clear HC29
      obtain ⟨t126, A44, H⟩ := bi H
      by_cases c45 : t126 = true
      ·subst c45
       rw [if_pos rfl] at H
       obtain ⟨t127, A46, H⟩ := bi H
       have H' := Aside0.mk H
       clear H
       have hnb47 := NB119_101.out
       have hnc47 := NB101_119.out
       obtain ⟨hcz48_0, hcz48_1, hcz48_2, hcz48_3, hfz48_0, hfz48_1, hfz48_2, hfz48_3⟩ := cf4 BK119
       obtain ⟨hcz49_0, hcz49_1, hcz49_2, hcz49_3, hfz49_0, hfz49_1, hfz49_2, hfz49_3⟩ := cf4 BK101
       go_wp2_with (first | ((with_reducible refine gc 18 rfl ?_); refine gL 61 Tryz.func18 #[.agg #[.slice Ao36 t105.length co36, .slice Ao39 t108.length co39, .int .i64 t111, .int .i64 t112], .agg #[.slice A0_0 l0_0.length c0_0, .slice A0_1 l0_1.length c0_1, .int .i64 a0_2, .int .i64 a0_3]] ?_; (with_reducible refine (walkmillref05_Same.calls kj4 _ _ t105 _ _ t108 t111 t112 _ _ l0_0 _ _ l0_1 a0_2 a0_3 true _ ?side1 ?side2 ?side3 ?side4 ?side5 ?side6 ?side7 ?side8 A44.out).mono ?_); (case side1 => exact pC (Kd.R_reads' HO107.out).2.2); (case side2 => exact (Kd.R_reads' HO107.out).2.1); (case side3 => exact pC (Kd.R_reads' HO110.out).2.2); (case side4 => exact (Kd.R_reads' HO110.out).2.1); (case side5 => exact pC (Kd.C_below HR0_0.out HB.out)); (case side6 => exact HC0_0.out); (case side7 => exact pC (Kd.C_below HR0_1.out HB.out)); (case side8 => exact HC0_1.out); rintro e w50 ⟨rfl, hb⟩; refine ⟨_, rfl, ?_⟩; replace HO107 := rb HO107 hb; replace HO110 := rb HO110 hb; replace HO118 := rb HO118 hb; replace HO124 := rb HO124 hb; replace BK101 := bb BK101 hb; replace BK119 := bb BK119 hb; replace HB := bs HB hb; clear hb) | (go_at_call 35; (with_reducible refine (walkmillref05_Spans.calls kj4 _ _ y116 _ _ l1 t127 _ ?side1 ?side2 ?side3 ?side4 A46.out).mono ?_); (case side1 => exact pC (Kd.R_reads' HO118.out).2.2); (case side2 => exact (Kd.R_reads' HO118.out).2.1); (case side3 => exact pC (Kd.C_below HR1.out HB.out)); (case side4 => exact HC1.out); rintro e w' ⟨rfl, ⟨nd, rfl⟩⟩))
       go_meet
       case rel => exact ⟨_, (!t127), (by first | rfl | (simp; done) | (simp [*]; done)), H', ⟨by have := HJ4.out; first | omega | exact Nat.le_refl _⟩, ⟨by (with_reducible repeat (first | apply Kd.R_alloc | apply Kd.R_drewN | apply Kd.R_drew)); exact Kd.R_mono HO124.out (fun _ hk => hk.2)⟩, ⟨by (with_reducible repeat (first | apply Kd.R_alloc | apply Kd.R_drewN | apply Kd.R_drew)); exact HO107.out⟩, ⟨by (with_reducible repeat (first | apply Kd.R_alloc | apply Kd.R_drewN | apply Kd.R_drew)); exact Kd.R_mono HO110.out (fun _ hk => hk.2)⟩, ⟨by (with_reducible repeat (first | refine blk_drewN ?_ _ | refine blk_drew ?_ | refine blk_alloc ?_ _)); exact BK101.out⟩, ⟨by (with_reducible repeat (first | refine blk_drewN ?_ _ | refine blk_drew ?_ | refine blk_alloc ?_ _)); exact BK119.out⟩, ⟨pE HB⟩⟩
      ·replace c45 := Bool.eq_false_iff.mpr c45
       subst c45
       rw [if_neg (show ¬ (false = true) by decide)] at H
       exact (walkmilllaw05_TenterNeeds.dead_j1 _ _ _ _ _ _ _ _ _ _ _ _ _ H HRT.out).elim
     case rest =>
      clear HC29
      try clear c1
      try clear c2
      try clear p2
      try clear c3
      try clear c4
      try clear c9
      try clear c10
      try clear c12
      try clear c13
      try clear c13b0
      try clear c13b1
      try clear c14
      try clear c16
      try clear c16b0
      try clear c16b1
      try clear c18
      try clear c22
      try clear c26
      try clear c36
      try clear c37
      try clear c38
      try clear c39
      try clear c45
      try clear c47
      try clear hcz11_0
      try clear hcz11_1
      try clear hcz11_2
      try clear hcz11_3
      try clear hcz14_0
      try clear hcz14_1
      try clear hcz14_2
      try clear hcz14_3
      try clear hcz17_0
      try clear hcz17_1
      try clear hcz17_2
      try clear hcz17_3
      try clear hcz19_0
      try clear hcz19_1
      try clear hcz19_2
      try clear hcz19_3
      try clear hcz20_0
      try clear hcz20_1
      try clear hcz20_2
      try clear hcz20_3
      try clear hcz30_0
      try clear hcz30_1
      try clear hcz30_2
      try clear hcz30_3
      try clear hcz38_0
      try clear hcz38_1
      try clear hcz38_2
      try clear hcz38_3
      try clear hcz42_0
      try clear hcz42_1
      try clear hcz42_2
      try clear hcz42_3
      try clear hcz48_0
      try clear hcz48_1
      try clear hcz48_2
      try clear hcz48_3
      try clear hcz49_0
      try clear hcz49_1
      try clear hcz49_2
      try clear hcz49_3
      try clear hcz7_0
      try clear hcz7_1
      try clear hcz7_2
      try clear hcz7_3
      try clear hfz11_0
      try clear hfz11_1
      try clear hfz11_2
      try clear hfz11_3
      try clear hfz14_0
      try clear hfz14_1
      try clear hfz14_2
      try clear hfz14_3
      try clear hfz17_0
      try clear hfz17_1
      try clear hfz17_2
      try clear hfz17_3
      try clear hfz19_0
      try clear hfz19_1
      try clear hfz19_2
      try clear hfz19_3
      try clear hfz20_0
      try clear hfz20_1
      try clear hfz20_2
      try clear hfz20_3
      try clear hfz30_0
      try clear hfz30_1
      try clear hfz30_2
      try clear hfz30_3
      try clear hfz38_0
      try clear hfz38_1
      try clear hfz38_2
      try clear hfz38_3
      try clear hfz42_0
      try clear hfz42_1
      try clear hfz42_2
      try clear hfz42_3
      try clear hfz48_0
      try clear hfz48_1
      try clear hfz48_2
      try clear hfz48_3
      try clear hfz49_0
      try clear hfz49_1
      try clear hfz49_2
      try clear hfz49_3
      try clear hfz7_0
      try clear hfz7_1
      try clear hfz7_2
      try clear hfz7_3
      try clear p2
      obtain ⟨kq, x68_28, rfl, HA, HJ28, HO_12, HO_120000, HO_120001, BK101, BK119, HB⟩ := hcut
      cases kq with
      | zero => exact absurd HA.out (by simp [walkmilllaw05_TenterNeeds.j1])
      | succ kj28 =>
       have H := HA.out
       clear HA
       simp only [walkmilllaw05_TenterNeeds.j1] at H
       by_cases c51 : x68_28 = true
       ·subst c51
        rw [if_pos rfl] at H
        exact absurd ((Option.some.inj H).trans HRT.out) (by simp)
       ·replace c51 := Bool.eq_false_iff.mpr c51
        subst c51
        rw [if_neg (show ¬ (false = true) by decide)] at H
        by_cases c52 : t102 = 0
        ·rw [if_pos c52] at H
         have c52b0 : (t102 == 0) = true := beq_iff_eq.mpr c52
         have c52b1 : (t102 != 0) = false := bne_eq_false_iff_eq.mpr c52
         clear c52
         have H' := Aside0.mk H
         clear H
         have hnb53 := NB101_119.out
         have hnc53 := NB119_101.out
         obtain ⟨hcz54_0, hcz54_1, hcz54_2, hcz54_3, hfz54_0, hfz54_1, hfz54_2, hfz54_3⟩ := cf4 BK101
         go_wp2
         go_loopg [14, 15] kj28 (fun kq v14 v15 w' => ∃ (x14_3 : Int) (x15_3 : Int), v14 = .int .i64 x14_3 ∧ v15 = .int .i64 x15_3 ∧ Aside0 (walkmilllaw05_TenterNeeds.l0 kq l1 a2 t120 t121 t122 t125 x14_3 x15_3 l0_0 l0_1 a0_2 a0_3 = some r) ∧ Aside0 (kq ≤ kj28) ∧ Aside0 (Kd.R (Kd.int .i64) 3 w' w.heap.size (fun k_ => some k_ ≠ ((.slice Ao39 t108.length co39) : Value).ownBlock) v123 t122) ∧ Aside0 (Kd.R k43 43 w' w.heap.size (fun _ => True) (.slice Ao36 t105.length co36) t105) ∧ Aside0 (Kd.R (Kd.int .i64) 3 w' w.heap.size (fun k_ => some k_ ≠ (v123 : Value).ownBlock) (.slice Ao39 t108.length co39) t108) ∧ Aside0 (w'.heap[gb101]? = some (.cells #[(.slice A0_0 l0_0.length c0_0), (.slice A0_1 l0_1.length c0_1), .int .i64 a0_2, .int .i64 a0_3] 25 (0, 0))) ∧ Aside0 (w'.heap[gb119]? = some (.cells #[(.slice Ao36 t105.length co36), (.slice Ao39 t108.length co39), .int .i64 t111, .int .i64 t112] 25 (0, 0))) ∧ Aside0 (Below w.heap.size w w'))
         case atStart => exact ⟨((-1)), (wrap64 ((l0_0.length : Int) - 1)), (by first | rfl | (simp; done) | (simp [*]; done)), (by first | rfl | (simp; done) | (simp [*]; done)), H', ⟨Nat.le_refl _⟩, ⟨by (with_reducible repeat (first | apply Kd.R_alloc | apply Kd.R_drewN | apply Kd.R_drew)); exact HO_12.out⟩, ⟨by (with_reducible repeat (first | apply Kd.R_alloc | apply Kd.R_drewN | apply Kd.R_drew)); exact HO_120000.out⟩, ⟨by (with_reducible repeat (first | apply Kd.R_alloc | apply Kd.R_drewN | apply Kd.R_drew)); exact HO_120001.out⟩, ⟨by (with_reducible repeat (first | refine blk_drewN ?_ _ | refine blk_drew ?_ | refine blk_alloc ?_ _)); exact BK101.out⟩, ⟨by (with_reducible repeat (first | refine blk_drewN ?_ _ | refine blk_drew ?_ | refine blk_alloc ?_ _)); exact BK119.out⟩, ⟨pE HB⟩⟩
         case round =>
          clear H'
          try clear c1
          try clear c2
          try clear p2
          try clear c3
          try clear c4
          try clear c5
          try clear p6
          try clear c9
          try clear c10
          try clear c12
          try clear c13
          try clear c13b0
          try clear c13b1
          try clear c14
          try clear c16
          try clear c16b0
          try clear c16b1
          try clear c18
          try clear c22
          try clear c26
          try clear c36
          try clear c37
          try clear c38
          try clear c39
          try clear c45
          try clear c47
          try clear c51
          try clear c52
          try clear c52b0
          try clear c52b1
          try clear c53
          try clear hcz11_0
          try clear hcz11_1
          try clear hcz11_2
          try clear hcz11_3
          try clear hcz14_0
          try clear hcz14_1
          try clear hcz14_2
          try clear hcz14_3
          try clear hcz17_0
          try clear hcz17_1
          try clear hcz17_2
          try clear hcz17_3
          try clear hcz19_0
          try clear hcz19_1
          try clear hcz19_2
          try clear hcz19_3
          try clear hcz20_0
          try clear hcz20_1
          try clear hcz20_2
          try clear hcz20_3
          try clear hcz30_0
          try clear hcz30_1
          try clear hcz30_2
          try clear hcz30_3
          try clear hcz38_0
          try clear hcz38_1
          try clear hcz38_2
          try clear hcz38_3
          try clear hcz42_0
          try clear hcz42_1
          try clear hcz42_2
          try clear hcz42_3
          try clear hcz48_0
          try clear hcz48_1
          try clear hcz48_2
          try clear hcz48_3
          try clear hcz49_0
          try clear hcz49_1
          try clear hcz49_2
          try clear hcz49_3
          try clear hcz54_0
          try clear hcz54_1
          try clear hcz54_2
          try clear hcz54_3
          try clear hcz7_0
          try clear hcz7_1
          try clear hcz7_2
          try clear hcz7_3
          try clear hfz11_0
          try clear hfz11_1
          try clear hfz11_2
          try clear hfz11_3
          try clear hfz14_0
          try clear hfz14_1
          try clear hfz14_2
          try clear hfz14_3
          try clear hfz17_0
          try clear hfz17_1
          try clear hfz17_2
          try clear hfz17_3
          try clear hfz19_0
          try clear hfz19_1
          try clear hfz19_2
          try clear hfz19_3
          try clear hfz20_0
          try clear hfz20_1
          try clear hfz20_2
          try clear hfz20_3
          try clear hfz30_0
          try clear hfz30_1
          try clear hfz30_2
          try clear hfz30_3
          try clear hfz38_0
          try clear hfz38_1
          try clear hfz38_2
          try clear hfz38_3
          try clear hfz42_0
          try clear hfz42_1
          try clear hfz42_2
          try clear hfz42_3
          try clear hfz48_0
          try clear hfz48_1
          try clear hfz48_2
          try clear hfz48_3
          try clear hfz49_0
          try clear hfz49_1
          try clear hfz49_2
          try clear hfz49_3
          try clear hfz54_0
          try clear hfz54_1
          try clear hfz54_2
          try clear hfz54_3
          try clear hfz7_0
          try clear hfz7_1
          try clear hfz7_2
          try clear hfz7_3
          try clear p2
          obtain ⟨x14_3, x15_3, rfl, rfl, HA, HK3, HO_12, HO_120000, HO_120001, BK101, BK119, HB⟩ := hrel
          cases gk with
          | zero => exact absurd HA.out (by simp [walkmilllaw05_TenterNeeds.l0])
          | succ k3 =>
           have H := HA.out
           clear HA
           simp only [walkmilllaw05_TenterNeeds.l0] at H
           by_cases c55 : x15_3 ≥ 0
           ·rw [if_pos c55] at H
            have c55b0 : decide (0 ≤ x15_3) = true := decide_eq_true c55
            clear c55
            obtain ⟨⟨t129, t130⟩, A56, H⟩ := bi H
            by_cases c57 : t130 > a2
            ·rw [if_pos c57] at H
             have c57b0 : decide (a2 < t130) = true := decide_eq_true c57
             clear c57
             have H' := Aside0.mk H
             clear H
             have hnb58 := NB101_119.out
             have hnc58 := NB119_101.out
             obtain ⟨hcz59_0, hcz59_1, hcz59_2, hcz59_3, hfz59_0, hfz59_1, hfz59_2, hfz59_3⟩ := cf4 BK101
             go_wp2_with (first | ((with_reducible refine gc 37 rfl ?_); refine gL 102 Tryz.func37 #[.agg #[.slice A0_0 l0_0.length c0_0, .slice A0_1 l0_1.length c0_1, .int .i64 a0_2, .int .i64 a0_3], .slice A1 l1.length c1, .int .i64 x15_3, .int .i64 0] ?_; (with_reducible refine (walkmillref05_Dry.calls k3 _ _ l0_0 _ _ l0_1 a0_2 a0_3 _ _ l1 x15_3 0 t129 t130 _ ?side1 ?side2 ?side3 ?side4 ?side5 ?side6 A56.out).mono ?_); (case side1 => exact pC (Kd.C_below HR0_0.out HB.out)); (case side2 => exact HC0_0.out); (case side3 => exact pC (Kd.C_below HR0_1.out HB.out)); (case side4 => exact HC0_1.out); (case side5 => exact pC (Kd.C_below HR1.out HB.out)); (case side6 => exact HC1.out); rintro e w60 ⟨rfl, hb⟩; refine ⟨_, rfl, ?_⟩; replace HO_12 := rb HO_12 hb; replace HO_120000 := rb HO_120000 hb; replace HO_120001 := rb HO_120001 hb; replace BK101 := bb BK101 hb; replace BK119 := bb BK119 hb; replace HB := bs HB hb; clear hb))
             go_roundg k3
             case measure => have := HJ4.out; have := HJ28.out; have := HK3.out; omega
             case rel => exact ⟨(x15_3), (wrap64 (x15_3 - 1)), (by first | rfl | (simp; done) | (simp [*]; done)), (by first | rfl | (simp; done) | (simp [*]; done)), H', ⟨by have := HJ4.out; have := HJ28.out; have := HK3.out; omega⟩, ⟨by (with_reducible repeat (first | apply Kd.R_alloc | apply Kd.R_drewN | apply Kd.R_drew)); exact HO_12.out⟩, ⟨by (with_reducible repeat (first | apply Kd.R_alloc | apply Kd.R_drewN | apply Kd.R_drew)); exact HO_120000.out⟩, ⟨by (with_reducible repeat (first | apply Kd.R_alloc | apply Kd.R_drewN | apply Kd.R_drew)); exact HO_120001.out⟩, ⟨by (with_reducible repeat (first | refine blk_drewN ?_ _ | refine blk_drew ?_ | refine blk_alloc ?_ _)); exact BK101.out⟩, ⟨by (with_reducible repeat (first | refine blk_drewN ?_ _ | refine blk_drew ?_ | refine blk_alloc ?_ _)); exact BK119.out⟩, ⟨pE HB⟩⟩
            ·rw [if_neg c57] at H
             have c57b0 : decide (a2 < t130) = false := decide_eq_false c57
             clear c57
             have H' := Aside0.mk H
             clear H
             have hnb61 := NB101_119.out
             have hnc61 := NB119_101.out
             obtain ⟨hcz62_0, hcz62_1, hcz62_2, hcz62_3, hfz62_0, hfz62_1, hfz62_2, hfz62_3⟩ := cf4 BK101
             go_wp2_with (first | ((with_reducible refine gc 37 rfl ?_); refine gL 102 Tryz.func37 #[.agg #[.slice A0_0 l0_0.length c0_0, .slice A0_1 l0_1.length c0_1, .int .i64 a0_2, .int .i64 a0_3], .slice A1 l1.length c1, .int .i64 x15_3, .int .i64 0] ?_; (with_reducible refine (walkmillref05_Dry.calls k3 _ _ l0_0 _ _ l0_1 a0_2 a0_3 _ _ l1 x15_3 0 t129 t130 _ ?side1 ?side2 ?side3 ?side4 ?side5 ?side6 A56.out).mono ?_); (case side1 => exact pC (Kd.C_below HR0_0.out HB.out)); (case side2 => exact HC0_0.out); (case side3 => exact pC (Kd.C_below HR0_1.out HB.out)); (case side4 => exact HC0_1.out); (case side5 => exact pC (Kd.C_below HR1.out HB.out)); (case side6 => exact HC1.out); rintro e w63 ⟨rfl, hb⟩; refine ⟨_, rfl, ?_⟩; replace HO_12 := rb HO_12 hb; replace HO_120000 := rb HO_120000 hb; replace HO_120001 := rb HO_120001 hb; replace BK101 := bb BK101 hb; replace BK119 := bb BK119 hb; replace HB := bs HB hb; clear hb))
             go_roundg k3
             case measure => have := HJ4.out; have := HJ28.out; have := HK3.out; omega
             case rel => exact ⟨(x14_3), (wrap64 (x15_3 - 1)), (by first | rfl | (simp; done) | (simp [*]; done)), (by first | rfl | (simp; done) | (simp [*]; done)), H', ⟨by have := HJ4.out; have := HJ28.out; have := HK3.out; omega⟩, ⟨by (with_reducible repeat (first | apply Kd.R_alloc | apply Kd.R_drewN | apply Kd.R_drew)); exact HO_12.out⟩, ⟨by (with_reducible repeat (first | apply Kd.R_alloc | apply Kd.R_drewN | apply Kd.R_drew)); exact HO_120000.out⟩, ⟨by (with_reducible repeat (first | apply Kd.R_alloc | apply Kd.R_drewN | apply Kd.R_drew)); exact HO_120001.out⟩, ⟨by (with_reducible repeat (first | refine blk_drewN ?_ _ | refine blk_drew ?_ | refine blk_alloc ?_ _)); exact BK101.out⟩, ⟨by (with_reducible repeat (first | refine blk_drewN ?_ _ | refine blk_drew ?_ | refine blk_alloc ?_ _)); exact BK119.out⟩, ⟨pE HB⟩⟩
           ·rw [if_neg c55] at H
            have c55b0 : decide (0 ≤ x15_3) = false := decide_eq_false c55
            clear c55
            have HC64 := Aside0.mk H
            clear H
            go_upto_region 17 with (fail)
            go_cut [129] (fun v129 wc => ∃ (kq : Nat) (x129_63 : Bool), v129 = .bool x129_63 ∧ Aside0 (walkmilllaw05_TenterNeeds.j3 kq l1 a2 t122 t125 x129_63 l0_0 l0_1 a0_2 a0_3 = some r) ∧ Aside0 (kq ≤ k3) ∧ Aside0 (Kd.R (Kd.int .i64) 3 wc w.heap.size (fun k_ => some k_ ≠ ((.slice Ao39 t108.length co39) : Value).ownBlock) v123 t122) ∧ Aside0 (Kd.R k43 43 wc w.heap.size (fun _ => True) (.slice Ao36 t105.length co36) t105) ∧ Aside0 (Kd.R (Kd.int .i64) 3 wc w.heap.size (fun k_ => some k_ ≠ (v123 : Value).ownBlock) (.slice Ao39 t108.length co39) t108) ∧ Aside0 (wc.heap[gb101]? = some (.cells #[(.slice A0_0 l0_0.length c0_0), (.slice A0_1 l0_1.length c0_1), .int .i64 a0_2, .int .i64 a0_3] 25 (0, 0))) ∧ Aside0 (wc.heap[gb119]? = some (.cells #[(.slice Ao36 t105.length co36), (.slice Ao39 t108.length co39), .int .i64 t111, .int .i64 t112] 25 (0, 0))) ∧ Aside0 (Below w.heap.size w wc))
            case first =>
             have H := HC64.out
             clear HC64
             by_cases c65 : x14_3 ≥ 0
             ·rw [if_pos c65] at H
              have c65b0 : decide (0 ≤ x14_3) = true := decide_eq_true c65
              clear c65
              (first | rw [c65b0] | (simp only [i64_w, i32_w]; rw [c65b0]) | skip)
              by_cases c66 : t121 = 0
              ·rw [if_pos c66] at H
               have c66b0 : (t121 == 0) = true := beq_iff_eq.mpr c66
               have c66b1 : (t121 != 0) = false := bne_eq_false_iff_eq.mpr c66
               clear c66
               by_cases c67 : t120 = x14_3
               ·rw [if_pos c67] at H
                have c67b0 : (t120 == x14_3) = true := beq_iff_eq.mpr c67
                have c67b1 : (t120 != x14_3) = false := bne_eq_false_iff_eq.mpr c67
                clear c67
                by_cases c68 : x14_3 < 0
                ·rw [if_pos c68] at H
                 have c68b0 : decide (x14_3 < 0) = true := decide_eq_true c68
                 clear c68
                 by_cases c69 : t121 = 6
                 ·rw [if_pos c69] at H
                  have c69b0 : (t121 == 6) = true := beq_iff_eq.mpr c69
                  have c69b1 : (t121 != 6) = false := bne_eq_false_iff_eq.mpr c69
                  clear c69
                  have H' := Aside0.mk H
                  clear H
                  go_wp2
                  go_meet
                  case rel => exact ⟨_, ((t120 != 0)), (by first | rfl | (simp; done) | (simp [*]; done)), H', ⟨by have := HJ4.out; have := HJ28.out; have := HK3.out; first | omega | exact Nat.le_refl _⟩, ⟨by (with_reducible repeat (first | apply Kd.R_alloc | apply Kd.R_drewN | apply Kd.R_drew)); exact HO_12.out⟩, ⟨by (with_reducible repeat (first | apply Kd.R_alloc | apply Kd.R_drewN | apply Kd.R_drew)); exact HO_120000.out⟩, ⟨by (with_reducible repeat (first | apply Kd.R_alloc | apply Kd.R_drewN | apply Kd.R_drew)); exact HO_120001.out⟩, ⟨by (with_reducible repeat (first | refine blk_drewN ?_ _ | refine blk_drew ?_ | refine blk_alloc ?_ _)); exact BK101.out⟩, ⟨by (with_reducible repeat (first | refine blk_drewN ?_ _ | refine blk_drew ?_ | refine blk_alloc ?_ _)); exact BK119.out⟩, ⟨pE HB⟩⟩
                 ·rw [if_neg c69] at H
                  have c69b0 : (t121 == 6) = false := beq_eq_false_iff_ne.mpr c69
                  have c69b1 : (t121 != 6) = true := bne_iff_ne.mpr c69
                  exact (walkmilllaw05_TenterNeeds.dead_j3 _ _ _ _ _ _ _ _ _ _ H HRT.out).elim
                ·rw [if_neg c68] at H
                 have c68b0 : decide (x14_3 < 0) = false := decide_eq_false c68
                 clear c68
                 have H' := Aside0.mk H
                 clear H
                 go_wp2
                 go_meet
                 case rel => exact ⟨_, (false), (by first | rfl | (simp; done) | (simp [*]; done)), H', ⟨by have := HJ4.out; have := HJ28.out; have := HK3.out; first | omega | exact Nat.le_refl _⟩, ⟨by (with_reducible repeat (first | apply Kd.R_alloc | apply Kd.R_drewN | apply Kd.R_drew)); exact HO_12.out⟩, ⟨by (with_reducible repeat (first | apply Kd.R_alloc | apply Kd.R_drewN | apply Kd.R_drew)); exact HO_120000.out⟩, ⟨by (with_reducible repeat (first | apply Kd.R_alloc | apply Kd.R_drewN | apply Kd.R_drew)); exact HO_120001.out⟩, ⟨by (with_reducible repeat (first | refine blk_drewN ?_ _ | refine blk_drew ?_ | refine blk_alloc ?_ _)); exact BK101.out⟩, ⟨by (with_reducible repeat (first | refine blk_drewN ?_ _ | refine blk_drew ?_ | refine blk_alloc ?_ _)); exact BK119.out⟩, ⟨pE HB⟩⟩
               ·rw [if_neg c67] at H
                have c67b0 : (t120 == x14_3) = false := beq_eq_false_iff_ne.mpr c67
                have c67b1 : (t120 != x14_3) = true := bne_iff_ne.mpr c67
                exact (walkmilllaw05_TenterNeeds.dead_j3 _ _ _ _ _ _ _ _ _ _ H HRT.out).elim
              ·rw [if_neg c66] at H
               have c66b0 : (t121 == 0) = false := beq_eq_false_iff_ne.mpr c66
               have c66b1 : (t121 != 0) = true := bne_iff_ne.mpr c66
               exact (walkmilllaw05_TenterNeeds.dead_j3 _ _ _ _ _ _ _ _ _ _ H HRT.out).elim
             ·rw [if_neg c65] at H
              have c65b0 : decide (0 ≤ x14_3) = false := decide_eq_false c65
              clear c65
              (first | rw [c65b0] | (simp only [i64_w, i32_w]; rw [c65b0]) | skip)
              by_cases c70 : x14_3 < 0
              ·rw [if_pos c70] at H
               have c70b0 : decide (x14_3 < 0) = true := decide_eq_true c70
               clear c70
               by_cases c71 : t121 = 6
               ·rw [if_pos c71] at H
                have c71b0 : (t121 == 6) = true := beq_iff_eq.mpr c71
                have c71b1 : (t121 != 6) = false := bne_eq_false_iff_eq.mpr c71
                clear c71
                have H' := Aside0.mk H
                clear H
                go_wp2
                go_meet
                case rel => exact ⟨_, ((t120 != 0)), (by first | rfl | (simp; done) | (simp [*]; done)), H', ⟨by have := HJ4.out; have := HJ28.out; have := HK3.out; first | omega | exact Nat.le_refl _⟩, ⟨by (with_reducible repeat (first | apply Kd.R_alloc | apply Kd.R_drewN | apply Kd.R_drew)); exact HO_12.out⟩, ⟨by (with_reducible repeat (first | apply Kd.R_alloc | apply Kd.R_drewN | apply Kd.R_drew)); exact HO_120000.out⟩, ⟨by (with_reducible repeat (first | apply Kd.R_alloc | apply Kd.R_drewN | apply Kd.R_drew)); exact HO_120001.out⟩, ⟨by (with_reducible repeat (first | refine blk_drewN ?_ _ | refine blk_drew ?_ | refine blk_alloc ?_ _)); exact BK101.out⟩, ⟨by (with_reducible repeat (first | refine blk_drewN ?_ _ | refine blk_drew ?_ | refine blk_alloc ?_ _)); exact BK119.out⟩, ⟨pE HB⟩⟩
               ·rw [if_neg c71] at H
                have c71b0 : (t121 == 6) = false := beq_eq_false_iff_ne.mpr c71
                have c71b1 : (t121 != 6) = true := bne_iff_ne.mpr c71
                exact (walkmilllaw05_TenterNeeds.dead_j3 _ _ _ _ _ _ _ _ _ _ H HRT.out).elim
              ·rw [if_neg c70] at H
               have c70b0 : decide (x14_3 < 0) = false := decide_eq_false c70
               clear c70
               have H' := Aside0.mk H
               clear H
               go_wp2
               go_meet
               case rel => exact ⟨_, (false), (by first | rfl | (simp; done) | (simp [*]; done)), H', ⟨by have := HJ4.out; have := HJ28.out; have := HK3.out; first | omega | exact Nat.le_refl _⟩, ⟨by (with_reducible repeat (first | apply Kd.R_alloc | apply Kd.R_drewN | apply Kd.R_drew)); exact HO_12.out⟩, ⟨by (with_reducible repeat (first | apply Kd.R_alloc | apply Kd.R_drewN | apply Kd.R_drew)); exact HO_120000.out⟩, ⟨by (with_reducible repeat (first | apply Kd.R_alloc | apply Kd.R_drewN | apply Kd.R_drew)); exact HO_120001.out⟩, ⟨by (with_reducible repeat (first | refine blk_drewN ?_ _ | refine blk_drew ?_ | refine blk_alloc ?_ _)); exact BK101.out⟩, ⟨by (with_reducible repeat (first | refine blk_drewN ?_ _ | refine blk_drew ?_ | refine blk_alloc ?_ _)); exact BK119.out⟩, ⟨pE HB⟩⟩
            case rest =>
             clear HC64
             try clear c1
             try clear c2
             try clear p2
             try clear c3
             try clear c4
             try clear c5
             try clear c6
             try clear p6
             try clear c7
             try clear c9
             try clear c10
             try clear c12
             try clear c13
             try clear c13b0
             try clear c13b1
             try clear c14
             try clear c16
             try clear c16b0
             try clear c16b1
             try clear c18
             try clear c22
             try clear c26
             try clear c36
             try clear c37
             try clear c38
             try clear c39
             try clear c45
             try clear c47
             try clear c51
             try clear c52
             try clear c52b0
             try clear c52b1
             try clear c53
             try clear c55
             try clear c55b0
             try clear c57
             try clear c57b0
             try clear c58
             try clear c61
             try clear p64
             try clear c65
             try clear c65b0
             try clear c66
             try clear c66b0
             try clear c66b1
             try clear c67
             try clear c67b0
             try clear c67b1
             try clear c68
             try clear c68b0
             try clear c69
             try clear c69b0
             try clear c69b1
             try clear c70
             try clear c70b0
             try clear c71
             try clear c71b0
             try clear c71b1
             try clear hcz11_0
             try clear hcz11_1
             try clear hcz11_2
             try clear hcz11_3
             try clear hcz14_0
             try clear hcz14_1
             try clear hcz14_2
             try clear hcz14_3
             try clear hcz17_0
             try clear hcz17_1
             try clear hcz17_2
             try clear hcz17_3
             try clear hcz19_0
             try clear hcz19_1
             try clear hcz19_2
             try clear hcz19_3
             try clear hcz20_0
             try clear hcz20_1
             try clear hcz20_2
             try clear hcz20_3
             try clear hcz30_0
             try clear hcz30_1
             try clear hcz30_2
             try clear hcz30_3
             try clear hcz38_0
             try clear hcz38_1
             try clear hcz38_2
             try clear hcz38_3
             try clear hcz42_0
             try clear hcz42_1
             try clear hcz42_2
             try clear hcz42_3
             try clear hcz48_0
             try clear hcz48_1
             try clear hcz48_2
             try clear hcz48_3
             try clear hcz49_0
             try clear hcz49_1
             try clear hcz49_2
             try clear hcz49_3
             try clear hcz54_0
             try clear hcz54_1
             try clear hcz54_2
             try clear hcz54_3
             try clear hcz59_0
             try clear hcz59_1
             try clear hcz59_2
             try clear hcz59_3
             try clear hcz62_0
             try clear hcz62_1
             try clear hcz62_2
             try clear hcz62_3
             try clear hcz7_0
             try clear hcz7_1
             try clear hcz7_2
             try clear hcz7_3
             try clear hfz11_0
             try clear hfz11_1
             try clear hfz11_2
             try clear hfz11_3
             try clear hfz14_0
             try clear hfz14_1
             try clear hfz14_2
             try clear hfz14_3
             try clear hfz17_0
             try clear hfz17_1
             try clear hfz17_2
             try clear hfz17_3
             try clear hfz19_0
             try clear hfz19_1
             try clear hfz19_2
             try clear hfz19_3
             try clear hfz20_0
             try clear hfz20_1
             try clear hfz20_2
             try clear hfz20_3
             try clear hfz30_0
             try clear hfz30_1
             try clear hfz30_2
             try clear hfz30_3
             try clear hfz38_0
             try clear hfz38_1
             try clear hfz38_2
             try clear hfz38_3
             try clear hfz42_0
             try clear hfz42_1
             try clear hfz42_2
             try clear hfz42_3
             try clear hfz48_0
             try clear hfz48_1
             try clear hfz48_2
             try clear hfz48_3
             try clear hfz49_0
             try clear hfz49_1
             try clear hfz49_2
             try clear hfz49_3
             try clear hfz54_0
             try clear hfz54_1
             try clear hfz54_2
             try clear hfz54_3
             try clear hfz59_0
             try clear hfz59_1
             try clear hfz59_2
             try clear hfz59_3
             try clear hfz62_0
             try clear hfz62_1
             try clear hfz62_2
             try clear hfz62_3
             try clear hfz7_0
             try clear hfz7_1
             try clear hfz7_2
             try clear hfz7_3
             try clear p2
             try clear p6
             obtain ⟨kq, x129_63, rfl, HA, HJ63, HO_12, HO_120000, HO_120001, BK101, BK119, HB⟩ := hcut
             cases kq with
             | zero => exact absurd HA.out (by simp [walkmilllaw05_TenterNeeds.j3])
             | succ kj63 =>
              have H := HA.out
              clear HA
              simp only [walkmilllaw05_TenterNeeds.j3] at H
              by_cases c72 : x129_63 = true
              ·subst c72
               rw [if_pos rfl] at H
               exact absurd ((Option.some.inj H).trans HRT.out) (by simp)
              ·replace c72 := Bool.eq_false_iff.mpr c72
               subst c72
               rw [if_neg (show ¬ (false = true) by decide)] at H
               obtain ⟨⟨t131, t134⟩, A73, H⟩ := bi H
               by_cases c74 : t134 = true
               ·subst c74
                rw [if_pos rfl] at H
                by_cases c75 : t125 = 0
                ·rw [if_pos c75] at H
                 have c75b0 : (t125 == 0) = true := beq_iff_eq.mpr c75
                 have c75b1 : (t125 != 0) = false := bne_eq_false_iff_eq.mpr c75
                 clear c75
                 obtain ⟨t135, A76, H⟩ := bi H
                 by_cases c77 : t135 = true
                 ·subst c77
                  rw [if_pos rfl] at H
                  obtain ⟨t136, A78, H⟩ := bi H
                  obtain rfl := Option.some.inj H
                  have hnb79 := NB101_119.out
                  have hnc79 := NB119_101.out
                  obtain ⟨_, _, _, _, _, _, _, _⟩ := cf4 BK101
                  go_wp2_with (first | ((with_reducible refine gc 40 rfl ?_); refine gL 134 Tryz.func40 #[.agg #[.slice A0_0 l0_0.length c0_0, .slice A0_1 l0_1.length c0_1, .int .i64 a0_2, .int .i64 a0_3], .slice A1 l1.length c1, .int .i64 a2] ?_; (with_reducible refine (walkmillref05_Order.calls kj63 _ _ l0_0 _ _ l0_1 a0_2 a0_3 _ _ l1 a2 t131 true _ ?side1 ?side2 ?side3 ?side4 ?side5 ?side6 A73.out).mono ?_); (case side1 => exact pC (Kd.C_below HR0_0.out HB.out)); (case side2 => exact HC0_0.out); (case side3 => exact pC (Kd.C_below HR0_1.out HB.out)); (case side4 => exact HC0_1.out); (case side5 => exact pC (Kd.C_below HR1.out HB.out)); (case side6 => exact HC1.out); rintro e w81 ⟨v132, rfl, ho0, hb⟩; refine ⟨_, rfl, ?_⟩; have HO133 := Aside0.mk (Kd.V_lower (Kd.V_mono (ok' := fun k_ => some k_ ≠ (v123 : Value).ownBlock ∧ some k_ ≠ (.slice Ao36 t105.length co36 : Value).ownBlock ∧ some k_ ≠ (.slice Ao39 t108.length co39 : Value).ownBlock ∧ k_ ≠ gb101 ∧ k_ ≠ gb119) ho0 (fun k_ hk_ => ⟨(Kd.fresh' (Kd.R_lt (pR HO_12.out)) k_ hk_), (Kd.fresh' (Kd.R_lt (pR HO_120000.out)) k_ hk_), (Kd.fresh' (Kd.R_lt (pR HO_120001.out)) k_ hk_), (Kd.freshB (g := gb101) (o := .cells #[.slice A0_0 l0_0.length c0_0, .slice A0_1 l0_1.length c0_1, .int .i64 a0_2, .int .i64 a0_3] 25 (0, 0)) (pB BK101.out) k_ hk_), (Kd.freshB (g := gb119) (o := .cells #[.slice Ao36 t105.length co36, .slice Ao39 t108.length co39, .int .i64 t111, .int .i64 t112] 25 (0, 0)) (pB BK119.out) k_ hk_)⟩)) (below_size (pE HB))); replace HO_12 := rb HO_12 hb; replace HO_120000 := rb HO_120000 hb; replace HO_120001 := rb HO_120001 hb; replace BK101 := bb BK101 hb; replace BK119 := bb BK119 hb; replace HB := bs HB hb; clear hb ho0; obtain ⟨Ao82, co82, eo82⟩ := Kd.R_slice HO_12.out; subst eo82; obtain ⟨Ao83, co83, eo83⟩ := Kd.V_slice HO133.out; subst eo83) | (go_at_call 31; (with_reducible refine (walkmillref05_Ints.calls kj63 _ _ t122 _ _ t131 true _ ?side1 ?side2 ?side3 ?side4 A76.out).mono ?_); (case side1 => exact pC (Kd.R_reads' HO_12.out).2.2); (case side2 => exact (Kd.R_reads' HO_12.out).2.1); (case side3 => exact pC (Kd.V_reads' HO133.out).2.2); (case side4 => exact (Kd.V_reads' HO133.out).2.1); rintro e w' ⟨rfl, ⟨nd, rfl⟩⟩) | (go_at_call 13; (with_reducible refine (walkmilllaw05_known.calls t136 _ A78.out (LaidT.below HLd.out (pE HB))).mono ?_); rintro e w84 ⟨rfl, hb⟩; replace HO_12 := rb HO_12 hb; replace HO_120000 := rb HO_120000 hb; replace HO_120001 := rb HO_120001 hb; replace HO133 := vb HO133 hb; replace BK101 := bb BK101 hb; replace BK119 := bb BK119 hb; replace HB := bs HB hb; (try clear hb); (try clear hb2); (try clear hk); (try clear hi)))
                  go_ret
                  exact ⟨eT, pE HB⟩
                 ·replace c77 := Bool.eq_false_iff.mpr c77
                  subst c77
                  rw [if_neg (show ¬ (false = true) by decide)] at H
                  exact absurd ((Option.some.inj H).trans HRT.out) (by simp)
                ·rw [if_neg c75] at H
                 have c75b0 : (t125 == 0) = false := beq_eq_false_iff_ne.mpr c75
                 have c75b1 : (t125 != 0) = true := bne_iff_ne.mpr c75
                 exact absurd ((Option.some.inj H).trans HRT.out) (by simp)
               ·replace c74 := Bool.eq_false_iff.mpr c74
                subst c74
                rw [if_neg (show ¬ (false = true) by decide)] at H
                by_cases c85 : t125 = 9
                ·rw [if_pos c85] at H
                 have c85b0 : (t125 == 9) = true := beq_iff_eq.mpr c85
                 have c85b1 : (t125 != 9) = false := bne_eq_false_iff_eq.mpr c85
                 clear c85
                 by_cases c86 : (t122.length : Int) = 0
                 ·rw [if_pos c86] at H
                  have c86b0 : ((t122.length : Int) == 0) = true := beq_iff_eq.mpr c86
                  have c86b1 : ((t122.length : Int) != 0) = false := bne_eq_false_iff_eq.mpr c86
                  clear c86
                  obtain ⟨t137, A87, H⟩ := bi H
                  obtain rfl := Option.some.inj H
                  have hnb88 := NB101_119.out
                  have hnc88 := NB119_101.out
                  obtain ⟨_, _, _, _, _, _, _, _⟩ := cf4 BK101
                  go_wp2_with (first | ((with_reducible refine gc 40 rfl ?_); refine gL 134 Tryz.func40 #[.agg #[.slice A0_0 l0_0.length c0_0, .slice A0_1 l0_1.length c0_1, .int .i64 a0_2, .int .i64 a0_3], .slice A1 l1.length c1, .int .i64 a2] ?_; (with_reducible refine (walkmillref05_Order.calls kj63 _ _ l0_0 _ _ l0_1 a0_2 a0_3 _ _ l1 a2 t131 false _ ?side1 ?side2 ?side3 ?side4 ?side5 ?side6 A73.out).mono ?_); (case side1 => exact pC (Kd.C_below HR0_0.out HB.out)); (case side2 => exact HC0_0.out); (case side3 => exact pC (Kd.C_below HR0_1.out HB.out)); (case side4 => exact HC0_1.out); (case side5 => exact pC (Kd.C_below HR1.out HB.out)); (case side6 => exact HC1.out); rintro e w90 ⟨v132, rfl, ho0, hb⟩; refine ⟨_, rfl, ?_⟩; have HO133 := Aside0.mk (Kd.V_lower (Kd.V_mono (ok' := fun k_ => some k_ ≠ (v123 : Value).ownBlock ∧ some k_ ≠ (.slice Ao36 t105.length co36 : Value).ownBlock ∧ some k_ ≠ (.slice Ao39 t108.length co39 : Value).ownBlock ∧ k_ ≠ gb101 ∧ k_ ≠ gb119) ho0 (fun k_ hk_ => ⟨(Kd.fresh' (Kd.R_lt (pR HO_12.out)) k_ hk_), (Kd.fresh' (Kd.R_lt (pR HO_120000.out)) k_ hk_), (Kd.fresh' (Kd.R_lt (pR HO_120001.out)) k_ hk_), (Kd.freshB (g := gb101) (o := .cells #[.slice A0_0 l0_0.length c0_0, .slice A0_1 l0_1.length c0_1, .int .i64 a0_2, .int .i64 a0_3] 25 (0, 0)) (pB BK101.out) k_ hk_), (Kd.freshB (g := gb119) (o := .cells #[.slice Ao36 t105.length co36, .slice Ao39 t108.length co39, .int .i64 t111, .int .i64 t112] 25 (0, 0)) (pB BK119.out) k_ hk_)⟩)) (below_size (pE HB))); replace HO_12 := rb HO_12 hb; replace HO_120000 := rb HO_120000 hb; replace HO_120001 := rb HO_120001 hb; replace BK101 := bb BK101 hb; replace BK119 := bb BK119 hb; replace HB := bs HB hb; clear hb ho0; obtain ⟨Ao91, co91, eo91⟩ := Kd.R_slice HO_12.out; subst eo91) | (go_at_call 13; (with_reducible refine (walkmilllaw05_known.calls t137 _ A87.out (LaidT.below HLd.out (pE HB))).mono ?_); rintro e w92 ⟨rfl, hb⟩; replace HO_12 := rb HO_12 hb; replace HO_120000 := rb HO_120000 hb; replace HO_120001 := rb HO_120001 hb; replace HO133 := vb HO133 hb; replace BK101 := bb BK101 hb; replace BK119 := bb BK119 hb; replace HB := bs HB hb; (try clear hb); (try clear hb2); (try clear hk); (try clear hi)))
                  go_ret
                  exact ⟨eT, pE HB⟩
                 ·rw [if_neg c86] at H
                  have c86b0 : ((t122.length : Int) == 0) = false := beq_eq_false_iff_ne.mpr c86
                  have c86b1 : ((t122.length : Int) != 0) = true := bne_iff_ne.mpr c86
                  have c86b2 : ¬ (t122 = []) := fun h_ => c86 (by rw [h_]; rfl)
                  exact absurd ((Option.some.inj H).trans HRT.out) (by simp)
                ·rw [if_neg c85] at H
                 have c85b0 : (t125 == 9) = false := beq_eq_false_iff_ne.mpr c85
                 have c85b1 : (t125 != 9) = true := bne_iff_ne.mpr c85
                 exact absurd ((Option.some.inj H).trans HRT.out) (by simp)
        ·rw [if_neg c52] at H
         have c52b0 : (t102 == 0) = false := beq_eq_false_iff_ne.mpr c52
         have c52b1 : (t102 != 0) = true := bne_iff_ne.mpr c52
         by_cases c93 : t121 = t102
         ·rw [if_pos c93] at H
          have c93b0 : (t121 == t102) = true := beq_iff_eq.mpr c93
          have c93b1 : (t121 != t102) = false := bne_eq_false_iff_eq.mpr c93
          clear c93
          by_cases c94 : t125 = t102
          ·rw [if_pos c94] at H
           have c94b0 : (t125 == t102) = true := beq_iff_eq.mpr c94
           have c94b1 : (t125 != t102) = false := bne_eq_false_iff_eq.mpr c94
           clear c94
           by_cases c95 : t120 = 0
           ·rw [if_pos c95] at H
            have c95b0 : (t120 == 0) = true := beq_iff_eq.mpr c95
            have c95b1 : (t120 != 0) = false := bne_eq_false_iff_eq.mpr c95
            clear c95
            by_cases c96 : (t122.length : Int) = 0
            ·rw [if_pos c96] at H
             have c96b0 : ((t122.length : Int) == 0) = true := beq_iff_eq.mpr c96
             have c96b1 : ((t122.length : Int) != 0) = false := bne_eq_false_iff_eq.mpr c96
             clear c96
             obtain ⟨t128, A97, H⟩ := bi H
             obtain rfl := Option.some.inj H
             obtain ⟨Ao98, co98, eo98⟩ := Kd.R_slice HO_12.out
             subst eo98
             go_wp2_with (first | (go_at_call 13; (with_reducible refine (walkmilllaw05_known.calls t128 _ A97.out (LaidT.below HLd.out (pE HB))).mono ?_); rintro e w99 ⟨rfl, hb⟩; replace HO_12 := rb HO_12 hb; replace HO_120000 := rb HO_120000 hb; replace HO_120001 := rb HO_120001 hb; replace BK101 := bb BK101 hb; replace BK119 := bb BK119 hb; replace HB := bs HB hb; (try clear hb); (try clear hb2); (try clear hk); (try clear hi)))
             go_ret
             exact ⟨eT, pE HB⟩
            ·rw [if_neg c96] at H
             have c96b0 : ((t122.length : Int) == 0) = false := beq_eq_false_iff_ne.mpr c96
             have c96b1 : ((t122.length : Int) != 0) = true := bne_iff_ne.mpr c96
             have c96b2 : ¬ (t122 = []) := fun h_ => c96 (by rw [h_]; rfl)
             exact absurd ((Option.some.inj H).trans HRT.out) (by simp)
           ·rw [if_neg c95] at H
            have c95b0 : (t120 == 0) = false := beq_eq_false_iff_ne.mpr c95
            have c95b1 : (t120 != 0) = true := bne_iff_ne.mpr c95
            exact absurd ((Option.some.inj H).trans HRT.out) (by simp)
          ·rw [if_neg c94] at H
           have c94b0 : (t125 == t102) = false := beq_eq_false_iff_ne.mpr c94
           have c94b1 : (t125 != t102) = true := bne_iff_ne.mpr c94
           exact absurd ((Option.some.inj H).trans HRT.out) (by simp)
         ·rw [if_neg c93] at H
          have c93b0 : (t121 == t102) = false := beq_eq_false_iff_ne.mpr c93
          have c93b1 : (t121 != t102) = true := bne_iff_ne.mpr c93
          exact absurd ((Option.some.inj H).trans HRT.out) (by simp)
    ·rw [if_neg c26] at H
     exact absurd H (by simp)
end Go.Proofs.YtikmfpjcdcckeaaGreatDoor.P
namespace Go.Proofs.YtikmfpjcdcckeaaGreatDoor.P
open Go.RowKit Go.Proofs.YtikmfpjcdcckeaaGreatDoorW.PrintWords Go.Proofs.YtikmfpjcdcckeaaGreatDoorW.PrintLast Go.Proofs.YtikmfpjcdcckeaaGreatDoorW.PrintMore
theorem rCheck_tot (k : Nat) (l0 : List S43) (l1 : List Int) (g s : Int) (hk : 20 < k) : walkmillref05_Check.f k l0 l1 g s = some (chk l0 l1 g s) := by
  by_cases h : (l0.length : Int) > 7
  · unfold walkmillref05_Check.f chk; rw [if_pos h, if_pos h]
  by_cases h2 : l1.length ≤ 3
  · exact rCheck_eq k l0 l1 g s (by omega) (by omega) (by omega)
  unfold walkmillref05_Check.f chk
  rw [if_neg h, if_neg h, rIn_eq, show isIn 1 3 (l1.length : Int) = false by
    cases hq : isIn 1 3 (l1.length : Int) with
    | false => rfl
    | true => have := isIn_iff.1 hq; omega]
  simp
theorem rWeather_tot (k : Nat) (l0 : List S43) (l1 : List Int) (g s : Int) (w : List S36) (h : Int) (hk : 100 < k) : walkmillref05_Weather.f k l0 l1 g s w h = some (wx l0 l1 g s w h) := by
  unfold walkmillref05_Weather.f
  rw [rCheck_tot k l0 l1 g s (by omega)]
  by_cases hc : chk l0 l1 g s = 0
  · have ok := chk_ok hc
    by_cases hw : w.length ≤ 24
    · have := rWeather_eq k l0 l1 g s w h (by omega) (by omega) (by omega) (by omega)
      unfold walkmillref05_Weather.f at this
      rw [rCheck_tot k l0 l1 g s (by omega)] at this
      exact this
    · unfold wx
      have : ¬ isIn 1 24 (w.length : Int) = true := fun e => by have := isIn_iff.1 e; omega
      rw [Option.bind_some, if_pos hc, if_pos hc, rIn_eq, Option.bind_some, if_neg this, if_neg this]
  · unfold wx; rw [Option.bind_some, if_neg hc, if_neg hc]
theorem rOrder_l0 (cl : List S43) (fr : List Int) (g s : Int) (w : List S36) (rain : Int) (hh : wx cl fr g s w rain = 0) (all : List (List Int)) : ∀ (d i k : Nat), i + d = cl.length → 120 + d < k →
    ∃ k', walkmillref05_Order.l0 k w rain ((rng i).map fun i => lateA cl w i rain) all i cl fr g s = walkmillref05_Order.l1 k' (lates cl w rain) all 0 ∧ k ≤ k' + d + 1
  | 0, i, k, hd, hk => by
    obtain ⟨k, rfl⟩ : ∃ m, k = m + 1 := ⟨k - 1, by omega⟩
    obtain rfl : i = cl.length := by omega
    exact ⟨k, by rw [walkmillref05_Order.l0, if_neg (by omega)]; rfl, by omega⟩
  | d + 1, i, k, hd, hk => by
    obtain ⟨k, rfl⟩ : ∃ m, k = m + 1 := ⟨k - 1, by omega⟩
    have hn := (chk_ok (wx_ok hh).1).1
    rw [walkmillref05_Order.l0, if_pos (by omega), rLate_eq k cl fr g s w i rain hh (isIn_iff.2 (by omega)) (by omega)]
    simp only [Option.bind_some, List.length_map, rng_length]
    rw [if_pos (by omega), nx i (by omega)]
    obtain ⟨k', q1, q2⟩ := rOrder_l0 cl fr g s w rain hh all d (i + 1) k (by omega) (by omega)
    refine ⟨k', ?_, by omega⟩
    rw [← q1, rng_snoc, List.map_append]; rfl
theorem rOrder_eq (k : Nat) (cl : List S43) (fr : List Int) (g s : Int) (w : List S36) (rain : Int) (hh : wx cl fr g s w rain = 0) (hk : 20000000 < k) :
    walkmillref05_Order.f k cl fr g s w rain = some (ordB (orderA cl w rain)) := by
  have hn := (chk_ok (wx_ok hh).1).1
  obtain ⟨M, hM, hM2⟩ := pow7
  unfold walkmillref05_Order.f
  rw [orders_eq cl.length M hn hM hM2 cl.length [] k (by simp) (by omega), Option.bind_some]
  obtain ⟨k', q1, q2⟩ := rOrder_l0 cl fr g s w rain hh (ordL cl.length cl.length []) cl.length 0 k (by omega) (by omega)
  rw [show rng 0 = [] from rfl, List.map_nil, show ((0 : Nat) : Int) = 0 from rfl] at q1
  rw [q1]
  have hd : (leftOf cl.length []).length = cl.length := by rw [leftOf_nil, rng_length]
  have hlen := ordL_len cl.length cl.length []
  have hp := hM cl.length cl.length hn hn
  have := rl1 (lates cl w rain) (ordL cl.length cl.length []) (fun p hp => by
    obtain ⟨t, ht0, ht⟩ := (mem_ordL cl.length cl.length [] p hd).1 hp
    rw [List.nil_append] at ht0
    rw [leftOf_nil, ← ht0] at ht
    refine ⟨fun x hx => ?_, by rw [ht.length_eq, rng_length]; omega⟩
    have := mem_rng.1 (ht.mem_iff.1 hx)
    rw [lates_length]; exact this) (by omega) (ordL cl.length cl.length []).length 0 k' (by omega) (by omega)
  rw [show ((0 : Nat) : Int) = 0 from rfl, List.drop_zero] at this
  rw [this, orderA]
  cases (ordL cl.length cl.length []).find? (okFrom (lates cl w rain) 0) <;> rfl
theorem TNE_l0 (cl : List S43) (fr : List Int) (g s : Int) (w : List S36) (rain : Int) (hh : wx cl fr g s w rain = 0) (m e : Int) (q : List Int) (eo : Int) : ∀ (n k : Nat) (x : Int), n ≤ cl.length → 60 + n < k →
    ∃ (k' : Nat) (x' : Int), walkmilllaw05_TenterNeeds.l0 k w rain m e q eo x ((n : Int) - 1) cl fr g s = walkmilllaw05_TenterNeeds.l0 k' w rain m e q eo x' (-1) cl fr g s ∧ k ≤ k' + n ∧
      ((∀ i (h : i < n) (h2 : i < cl.length), (dryOf w 0 cl[i]).f1 ≤ rain) ∧ x' = x ∨ ∃ (j : Nat) (h2 : j < cl.length), j < n ∧ x' = j ∧ (dryOf w 0 cl[j]).f1 > rain ∧ ∀ i (h : i < j), (dryOf w 0 (cl[i]'(Nat.lt_trans h h2))).f1 ≤ rain)
  | 0, k, x, hn, hk => ⟨k, x, by simp, by omega, .inl ⟨fun i h => absurd h (by omega), rfl⟩⟩
  | n + 1, k, x, hn, hk => by
    obtain ⟨k, rfl⟩ : ∃ m, k = m + 1 := ⟨k - 1, by omega⟩
    have h7 := (chk_ok (wx_ok hh).1).1
    have hi : n < cl.length := by omega
    rw [show ((n + 1 : Nat) : Int) - 1 = (n : Int) by omega, walkmilllaw05_TenterNeeds.l0, if_pos (by omega), rDry_at k cl fr g s 0 w hh (by omega) (by omega) n hi (by omega)]
    simp only [Option.bind_some]
    rw [w64_of (n := (n : Int) - 1) (by omega) (by omega)]
    by_cases hc : (dryOf w 0 cl[n]).f1 > rain
    · rw [if_pos hc]
      obtain ⟨k', x', q1, q2, q3⟩ := TNE_l0 cl fr g s w rain hh m e q eo n k n (by omega) (by omega)
      refine ⟨k', x', q1, by omega, .inr ?_⟩
      rcases q3 with ⟨a1, a2⟩ | ⟨j, j1, j2, j3, j4, j5⟩
      · exact ⟨n, hi, by omega, a2, hc, fun i h => a1 i h (by omega)⟩
      · exact ⟨j, j1, by omega, j3, j4, j5⟩
    · rw [if_neg hc]
      obtain ⟨k', x', q1, q2, q3⟩ := TNE_l0 cl fr g s w rain hh m e q eo n k x (by omega) (by omega)
      refine ⟨k', x', q1, by omega, ?_⟩
      rcases q3 with ⟨a1, a2⟩ | ⟨j, j1, j2, j3, j4, j5⟩
      · refine .inl ⟨fun i h h2 => ?_, a2⟩
        by_cases ei : i = n
        · subst ei; omega
        · exact a1 i (by omega) h2
      · exact .inr ⟨j, j1, by omega, j3, j4, j5⟩
theorem TNE_K (cl : List S43) (fr : List Int) (g s : Int) (w : List S36) (rain : Int) (K : Nat) (hK : 20001000 ≤ K) : walkmilllaw05_TenterNeeds.f (K + 1) cl fr g s w rain = some true := by
  have kn : ∀ k e, walkmilllaw05_TenterNeeds.j0 (k + 1) w rain e true cl fr g s = some true := fun k e => by rw [walkmilllaw05_TenterNeeds.j0, if_pos rfl]; rfl
  unfold walkmilllaw05_TenterNeeds.f walkmilllaw05_large.f
  rw [rWeather_tot (K + 1) cl fr g s w rain (by omega), Option.bind_some]
  by_cases h : (cl.length : Int) > 10
  · rw [if_pos h, Option.bind_some, if_pos rfl, kn]
  rw [if_neg h, Option.bind_some]
  by_cases h2 : (fr.length : Int) > 6
  · rw [if_pos (by simpa using h2), kn]
  rw [if_neg (by simpa using h2)]
  by_cases h3 : (w.length : Int) > 40
  · rw [if_pos h3, kn]
  rw [if_neg h3]
  have go : (wx cl fr g s w rain = 0 → cl.length ≤ 6) → walkmilllaw05_TenterNeeds.j0 (K + 1) w rain (wx cl fr g s w rain) false cl fr g s = some true := by
    intro h6
    rw [walkmilllaw05_TenterNeeds.j0, if_neg (by simp), rCopy_eq cl fr g s (by omega) (by omega)]
    simp only [Option.bind_some, List.nil_append, List.length_nil, Nat.zero_add]
    rw [if_pos (by omega)]
    by_cases hh : wx cl fr g s w rain = 0
    · obtain ⟨m, e, n1, n2⟩ := tNeed_eq K cl fr g s rain w hh (by omega)
      rw [n1, Option.bind_some, tOrder_eq K cl fr g s w rain (by omega), Option.bind_some, if_pos hh, rSame_eq K cl fr g s (by omega) (by omega) (by omega), Option.bind_some, if_pos rfl, rSpans_same K w (by omega) (by omega), Option.bind_some]
      obtain ⟨K, rfl⟩ : ∃ m, K = m + 1 := ⟨K - 1, by omega⟩
      have hc6 := h6 hh
      rw [walkmilllaw05_TenterNeeds.j1, if_neg (by simp), if_pos hh, w64_of (n := (cl.length : Int) - 1) (by omega) (by omega)]
      obtain ⟨k', x', q1, q2, q3⟩ := TNE_l0 cl fr g s w rain hh m e (ordR (orderA cl w rain)).1 (ordR (orderA cl w rain)).2 cl.length K (-1) (Nat.le_refl _) (by omega)
      rw [q1]
      obtain ⟨k', rfl⟩ : ∃ m, k' = m + 2 := ⟨k' - 2, by omega⟩
      have fin : walkmilllaw05_TenterNeeds.j3 (k' + 1) w rain (ordR (orderA cl w rain)).1 (ordR (orderA cl w rain)).2 false cl fr g s = some true := by
        rw [walkmilllaw05_TenterNeeds.j3, if_neg (by simp), rOrder_eq k' cl fr g s w rain hh (by omega), Option.bind_some]
        cases ho : orderA cl w rain with
        | none => rfl
        | some p =>
          have hd : (leftOf cl.length []).length = cl.length := by rw [leftOf_nil, rng_length]
          have hp := List.mem_of_find?_eq_some ho
          obtain ⟨t, ht0, ht⟩ := (mem_ordL cl.length cl.length [] p hd).1 hp
          rw [List.nil_append] at ht0
          rw [← ht0] at ht
          have hl : p.length ≤ 10 := by rw [ht.length_eq, hd]; omega
          show (if (true : Bool) = true then (if (0 : Int) = 0 then ((walkmillref05_Ints.f k' p p).bind fun t135 => (if t135 = true then ((walkmilllaw05_known.f).bind fun t136 => (some t136)) else (some false))) else (some false)) else _) = some true
          rw [if_pos rfl, if_pos rfl, rInts_same k' _ (by omega) (by omega), Option.bind_some]; rfl
      rw [show k' + 2 = (k' + 1) + 1 by omega, walkmilllaw05_TenterNeeds.l0, if_neg (by omega)]
      rcases n2 with ⟨he, j, hm, hj, j1, j2⟩ | ⟨he, hm, j1⟩
      · rcases q3 with ⟨a1, a2⟩ | ⟨j', b1, b2, b3, b4, b5⟩
        · exact absurd (a1 j hj hj) (by omega)
        · have : j' = j := by
            rcases Nat.lt_trichotomy j' j with hl | hl | hl
            · exact absurd (j2 j' hl) (by omega)
            · exact hl
            · exact absurd (b5 j hl) (by omega)
          subst this
          rw [if_pos (by omega), if_pos he, if_pos (by omega), if_neg (by omega)]
          exact fin
      · rcases q3 with ⟨a1, a2⟩ | ⟨j', b1, b2, b3, b4, b5⟩
        · rw [if_neg (by omega), if_pos (by omega), if_pos he, show (m != 0) = false by simp [hm]]
          exact fin
        · exact absurd (j1 j' b1) (by omega)
    · have en : tenter_Need.f K cl fr g s w rain = some (0, wx cl fr g s w rain) := by
        unfold tenter_Need.f
        rw [newForecast_eq]
        simp only [Option.bind_some]
        rw [if_neg hh]
      rw [en, Option.bind_some, tOrder_eq K cl fr g s w rain (by omega), Option.bind_some, if_neg hh, rSame_eq K cl fr g s (by omega) (by omega) (by omega), Option.bind_some, if_pos rfl, rSpans_same K w (by omega) (by omega), Option.bind_some]
      obtain ⟨K, rfl⟩ : ∃ m, K = m + 1 := ⟨K - 1, by omega⟩
      rw [walkmilllaw05_TenterNeeds.j1, if_neg (by simp), if_neg hh, if_pos rfl, if_pos rfl, if_pos rfl]
      simp only [List.length_nil]
      rfl
  by_cases hh : wx cl fr g s w rain = 0
  · rw [if_pos hh]
    by_cases h6 : (cl.length : Int) > 6
    · rw [show decide ((cl.length : Int) > 6) = true by simpa using h6, kn]
    · rw [show decide ((cl.length : Int) > 6) = false by simpa using h6]
      exact go (fun _ => by omega)
  · rw [if_neg hh]
    exact go (fun e => absurd e hh)
theorem TenterNeeds_yes (cl : List S43) (fr : List Int) (g s : Int) (w : List S36) (rain : Int) : ∃ k, walkmilllaw05_TenterNeeds.f k cl fr g s w rain = some true := ⟨20001000 + 1, TNE_K cl fr g s w rain 20001000 (Nat.le_refl _)⟩
end Go.Proofs.YtikmfpjcdcckeaaGreatDoor.P
namespace Go.Proofs.YtikmfpjcdcckeaaGreatDoor.P
open Go.RowKit Go.ChangeShapes Go.WideShapes Go.Deep Go.Proofs.YtikmfpjcdcckeaaGreatDoorW.PrintWords Go.Proofs.YtikmfpjcdcckeaaGreatDoorW.PrintLast Go.Proofs.YtikmfpjcdcckeaaGreatDoorW.PrintMore
structure Opens {α : Type} (P : Program) (d : Kd α) (t : TypeId) (B : α → Prop) : Prop where
  sz : P.cellsOf t = d.sz
  op : ∀ (H : Type) (enc : TypeId × Value → H) (w : World) (base : Nat) (spare : Nat → Bool) (held : Bool) (n : Nat) (cs : List Value) (x : DataW H × List MemPlace), DataW.trod enc P w base spare held n t cs = some x → ∃ p, d.K w p cs ∧ B p
theorem Opens.int {P : Program} {t : TypeId} {k : IntKind} (ht : P.underlying t = some (.int k)) (hc : P.cellsOf t = 1) : Opens P (Kd.int k) t (fun n => (Lit.int k n).wf = true) :=
  ⟨hc, fun H enc w base spare held n cs x h => by
    obtain ⟨m, rfl, _, hw⟩ := DataW.trod_int ht h
    exact ⟨m, rfl, hw⟩⟩
theorem Opens.bool {P : Program} {t : TypeId} (ht : P.underlying t = some .bool) (hc : P.cellsOf t = 1) : Opens P Kd.bool t (fun _ => True) :=
  ⟨hc, fun H enc w base spare held n cs x h => by
    obtain ⟨b, rfl, _⟩ := DataW.trod_bool ht h
    exact ⟨b, rfl, trivial⟩⟩
theorem Opens.imp {α : Type} {P : Program} {d : Kd α} {t : TypeId} {B B' : α → Prop} (h : Opens P d t B) (hb : ∀ x, B x → B' x) : Opens P d t B' :=
  ⟨h.sz, fun H enc w base spare held n cs x hx => by obtain ⟨p, h1, h2⟩ := h.op H enc w base spare held n cs x hx; exact ⟨p, h1, hb p h2⟩⟩
theorem choose_list {α : Type} {Q : Nat → α → Prop} : ∀ (n : Nat), (∀ i, i < n → ∃ p, Q i p) → ∃ l : List α, l.length = n ∧ ∀ i p, l[i]? = some p → Q i p
  | 0, _ => ⟨[], rfl, fun i p h => by simp at h⟩
  | n + 1, h => by
    obtain ⟨l, hl, hq⟩ := choose_list n (fun i hi => h i (by omega))
    obtain ⟨p, hp⟩ := h n (by omega)
    refine ⟨l ++ [p], by simp [hl], fun i q hi => ?_⟩
    rcases Nat.lt_or_ge i l.length with h1 | h1
    · rw [List.getElem?_append_left h1] at hi
      exact hq i q hi
    · have : i = n := by
        have := (List.getElem?_eq_some_iff.1 hi).1
        simp at this
        omega
      subst this
      rw [List.getElem?_append_right h1, hl, Nat.sub_self] at hi
      obtain rfl : p = q := by simpa using hi
      exact hp
theorem Opens.slice {α : Type} {P : Program} {d : Kd α} {t e : TypeId} {B : α → Prop} (h : Opens P d e B) (ht : P.underlying t = some (.slice e)) (hc : P.cellsOf t = 1) : Opens P (Kd.slice e d) t (fun l => ∀ x ∈ l, B x) :=
  ⟨hc, fun H enc w base spare held n cs x hx => by
    rcases open_slice ht hx with ⟨rfl, _⟩ | ⟨a, len, cap, m, n', D, Pl, rfl, hb, hl, hm, hmm, _, hi⟩
    · exact ⟨[], ⟨none, 0, rfl, Nat.le_refl _, Kd.C_nil _ _⟩, fun x hx => by cases hx⟩
    · obtain ⟨l, hll, hq⟩ := choose_list (Q := fun i p => (∃ cs', d.K w p cs' ∧ ∀ j, j < d.sz → w.cell? (a.add (i * d.sz + j)) = cs'[j]?) ∧ B p) len (fun i hi' => by
        obtain ⟨cs', hcs, htr⟩ := hi i (by rw [hmm]; split <;> omega)
        obtain ⟨p, hk, hp⟩ := h.op H enc w base spare held n' cs' _ htr
        obtain ⟨_, hcl, hat⟩ := World.cells?_some hcs
        rw [h.sz] at hat
        exact ⟨p, ⟨cs', hk, fun j hj => by
          have := hat j hj
          rw [Go.Deep.add_add] at this
          exact this⟩, hp⟩)
      refine ⟨l, ⟨some a, cap, by rw [hll], by rw [hll]; exact hl, ⟨rfl, by rw [hll]; simp only [maxLen] at hm; omega, fun h0 => ⟨a, rfl, fun j p hj => ?_⟩⟩⟩, fun x hx => ?_⟩
      · obtain ⟨⟨cs', hk, hat⟩, _⟩ := hq j p hj
        refine ⟨cs', d.K_len hk, hk, fun i u hu => ?_⟩
        have hi' : i < d.sz := by have := (List.getElem?_eq_some_iff.1 hu).1; rw [d.K_len hk] at this; exact this
        rw [hat i hi', hu]
      · obtain ⟨i, hi'⟩ := List.getElem?_of_mem hx
        exact (hq i x hi').2⟩
def OpensS {α : Type} (P : Program) (fs : Array Field) (j off : Nat) (d : Kd α) (B : α → Prop) : Prop :=
  ∀ (H : Type) (enc : TypeId × Value → H) (w : World) (base : Nat) (spare : Nat → Bool) (held : Bool) (n : Nat) (cs : List Value) (xs : List (DataW H × List MemPlace)), xs.length = fs.size →
    (∀ (i : Nat) (f : Field), fs[i]? = some f → DataW.trod enc P w base spare held n f.type ((cs.drop f.offset).take (P.cellsOf f.type)) = xs[i]?) → ∃ p, d.K w p ((cs.drop off).take d.sz) ∧ B p
theorem OpensS.one {α : Type} {P : Program} {fs : Array Field} {j off : Nat} {d : Kd α} {B : α → Prop} (f : Field) (hf : fs[j]? = some f) (ho : f.offset = off) (h : Opens P d f.type B) : OpensS P fs j off d B := by
  intro H enc w base spare held n cs xs hl hx
  have h1 := hx j f hf
  have hj : j < xs.length := by rw [hl]; exact (Array.getElem?_eq_some_iff.1 hf).1
  rw [List.getElem?_eq_getElem hj, ho, h.sz] at h1
  exact h.op H enc w base spare held n _ _ h1
theorem OpensS.cons {α β : Type} {P : Program} {fs : Array Field} {j off : Nat} {d : Kd α} {d' : Kd β} {B : α → Prop} {B' : β → Prop} (h : OpensS P fs j off d B) (h' : OpensS P fs (j + 1) (off + d.sz) d' B') : OpensS P fs j off (Kd.pair d d') (fun p => B p.1 ∧ B' p.2) := by
  intro H enc w base spare held n cs xs hl hx
  obtain ⟨p, h1, h2⟩ := h H enc w base spare held n cs xs hl hx
  obtain ⟨q, h3, h4⟩ := h' H enc w base spare held n cs xs hl hx
  refine ⟨(p, q), ⟨_, _, ?_, h1, h3⟩, h2, h4⟩
  show (cs.drop off).take (d.sz + d'.sz) = _
  rw [List.take_add, List.drop_drop]
theorem OpensS.iso {α β : Type} {P : Program} {fs : Array Field} {j off : Nat} {d : Kd α} {B : α → Prop} (h : OpensS P fs j off d B) (f : β → α) (g : α → β) (hg : ∀ a, f (g a) = a) : OpensS P fs j off (Kd.iso d f) (fun y => B (f y)) := by
  intro H enc w base spare held n cs xs hl hx
  obtain ⟨p, h1, h2⟩ := h H enc w base spare held n cs xs hl hx
  exact ⟨g p, by show d.K w (f (g p)) _; rw [hg]; exact h1, by show B (f (g p)); rw [hg]; exact h2⟩
theorem Opens.struct {α : Type} {P : Program} {fs : Array Field} {d : Kd α} {t : TypeId} {B : α → Prop} (h : OpensS P fs 0 0 d B) (ht : P.underlying t = some (.struct fs)) (hc : P.cellsOf t = d.sz) : Opens P d t B :=
  ⟨hc, fun H enc w base spare held n cs x hx => by
    obtain ⟨xs, n', _, _, hcl, hl, hf⟩ := DataW.trod_struct ht hx
    obtain ⟨p, h1, h2⟩ := h H enc w base spare held n' cs xs hl hf
    refine ⟨p, ?_, h2⟩
    rw [List.drop_zero, List.take_of_length_le (by rw [hcl, hc]; exact Nat.le_refl _)] at h1
    exact h1⟩
theorem Opens.array {α : Type} {P : Program} {fs : Array Field} {d : Kd α} {t e : TypeId} {n : Nat} {B : α → Prop} (h : OpensS P fs 0 0 d B) (ht : P.underlying t = some (.array n e)) (hc : P.cellsOf t = d.sz) (he : P.cellsOf e = 1) (hn : fs.size = n) (hf : ∀ i : Fin fs.size, fs[i].type = e ∧ fs[i].offset = i.val) : Opens P d t B :=
  ⟨hc, fun H enc w base spare held n' cs x hx => by
    obtain ⟨xs, m, _, _, hcl, hl, hg⟩ := DataW.trod_array ht hx
    obtain ⟨p, h1, h2⟩ := h H enc w base spare held m cs xs (by rw [hl, hn]) (fun i f hi => by
      obtain ⟨hi', rfl⟩ := Array.getElem?_eq_some_iff.1 hi
      obtain ⟨e1, e2⟩ := hf ⟨i, hi'⟩
      have e1' : fs[i].type = e := e1
      have e2' : fs[i].offset = i := e2
      have := hg i (by rw [← hn]; exact hi')
      rw [he, Nat.mul_one] at this
      rw [e1', e2', he]; exact this)
    refine ⟨p, ?_, h2⟩
    rw [List.drop_zero, List.take_of_length_le (by rw [hcl, hc]; exact Nat.le_refl _)] at h1
    exact h1⟩
theorem Opens.arg_slice {α : Type} {P : Program} {d : Kd α} {t e : TypeId} {B : List α → Prop} (h : Opens P (Kd.slice e d) t B) {H : Type} {enc : TypeId × Value → H} {w : World} {base : Nat} {spare : Nat → Bool} {held : Bool} {v : Value} {x : DataW H} {ps : List MemPlace} {a : Option Addr} {len cap : Nat} (hv : v = .slice a len cap) (hx : DataW.Trod enc P w base spare held t v x ps) :
    ∃ l : List α, len = l.length ∧ l.length ≤ cap ∧ Kd.C d w a l.length l ∧ B l := by
  obtain ⟨n, hn⟩ := hx
  subst hv
  obtain ⟨l, ⟨A, c, he, hl, hr⟩, hb⟩ := h.op H enc w base spare held n _ _ hn
  have he' : Value.slice a len cap = .slice A l.length c := by simpa [Value.cells] using he
  cases he'
  exact ⟨l, rfl, hl, hr, hb⟩
theorem Opens.arg {α : Type} {P : Program} {d : Kd α} {t : TypeId} {B : α → Prop} (h : Opens P d t B) {H : Type} {enc : TypeId × Value → H} {w : World} {base : Nat} {spare : Nat → Bool} {held : Bool} {v : Value} {x : DataW H} {ps : List MemPlace} (hx : DataW.Trod enc P w base spare held t v x ps) :
    ∃ p : α, d.K w p v.cells.toList ∧ B p := by
  obtain ⟨n, hn⟩ := hx
  exact h.op H enc w base spare held n _ _ hn
theorem agg_cells {v : Value} {l : List Value} (h : v.cells.toList = l) (hl : 2 ≤ l.length) : v = .agg l.toArray := by
  cases v with
  | agg x => simp only [Value.cells] at h; rw [← h]
  | _ => simp only [Value.cells] at h; subst h; simp at hl
end Go.Proofs.YtikmfpjcdcckeaaGreatDoor.P
namespace Go.Proofs.YtikmfpjcdcckeaaGreatDoor.P
open Go.RowKit Go.Proofs.YtikmfpjcdcckeaaGreatDoorW.PrintWords
def IsK (k : IntKind) (n : Int) : Prop := (Lit.int k n).wf = true
theorem O_i64 : Opens Tryz.prog (Kd.int .i64) 3 (IsK .i64) := Opens.int Tryz.underlying3 (by kernel_rfl)
def B36 (x : S36) : Prop := (IsK .i64) x.f0 ∧ (IsK .i64) x.f1
theorem O36 : Opens Tryz.prog k36 36 B36 := by
  refine Opens.struct ?_ Tryz.underlying36 (by kernel_rfl)
  refine OpensS.iso (d := (Kd.pair (Kd.int .i64) (Kd.int .i64))) (B := fun p => (IsK .i64) p.1 ∧ (IsK .i64) p.2) ?_ (fun x : S36 => (x.f0, x.f1)) (fun p => ⟨p.1, p.2⟩) (fun _ => rfl)
  refine OpensS.cons (B := IsK .i64) (B' := fun p : Int => (IsK .i64) p) ?_ ?_
  · exact OpensS.one _ rfl rfl O_i64
  exact OpensS.one _ rfl rfl O_i64
def B43 (x : S43) : Prop := (B36) x.f0 ∧ (B36) x.f1
theorem O43 : Opens Tryz.prog k43 43 B43 := by
  refine Opens.struct ?_ Tryz.underlying43 (by kernel_rfl)
  refine OpensS.iso (d := (Kd.pair k36 k36)) (B := fun p => (B36) p.1 ∧ (B36) p.2) ?_ (fun x : S43 => (x.f0, x.f1)) (fun p => ⟨p.1, p.2⟩) (fun _ => rfl)
  refine OpensS.cons (B := B36) (B' := fun p : S36 => (B36) p) ?_ ?_
  · exact OpensS.one _ rfl rfl O36
  exact OpensS.one _ rfl rfl O36
def B25 (x : S25) : Prop := (fun l => ∀ x ∈ l, (B43) x) x.f0 ∧ (fun l => ∀ x ∈ l, (IsK .i64) x) x.f1 ∧ (IsK .i64) x.f2 ∧ (IsK .i64) x.f3
theorem O25 : Opens Tryz.prog k25 25 B25 := by
  refine Opens.struct ?_ Tryz.underlying25 (by kernel_rfl)
  refine OpensS.iso (d := (Kd.pair (Kd.slice 43 k43) (Kd.pair (Kd.slice 3 (Kd.int .i64)) (Kd.pair (Kd.int .i64) (Kd.int .i64))))) (B := fun p => (fun l => ∀ x ∈ l, (B43) x) p.1 ∧ (fun l => ∀ x ∈ l, (IsK .i64) x) p.2.1 ∧ (IsK .i64) p.2.2.1 ∧ (IsK .i64) p.2.2.2) ?_ (fun x : S25 => (x.f0, x.f1, x.f2, x.f3)) (fun p => ⟨p.1, p.2.1, p.2.2.1, p.2.2.2⟩) (fun _ => rfl)
  refine OpensS.cons (B := fun l => ∀ x ∈ l, (B43) x) (B' := fun p : (List Int) × Int × Int => (fun l => ∀ x ∈ l, (IsK .i64) x) p.1 ∧ (IsK .i64) p.2.1 ∧ (IsK .i64) p.2.2) ?_ ?_
  · exact OpensS.one _ rfl rfl (Opens.slice O43 Tryz.underlying22 (by kernel_rfl))
  refine OpensS.cons (B := fun l => ∀ x ∈ l, (IsK .i64) x) (B' := fun p : Int × Int => (IsK .i64) p.1 ∧ (IsK .i64) p.2) ?_ ?_
  · exact OpensS.one _ rfl rfl (Opens.slice O_i64 Tryz.underlying23 (by kernel_rfl))
  refine OpensS.cons (B := IsK .i64) (B' := fun p : Int => (IsK .i64) p) ?_ ?_
  · exact OpensS.one _ rfl rfl O_i64
  exact OpensS.one _ rfl rfl O_i64
end Go.Proofs.YtikmfpjcdcckeaaGreatDoor.P
