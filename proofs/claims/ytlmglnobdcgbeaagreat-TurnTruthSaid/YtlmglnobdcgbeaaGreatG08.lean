/- Part 8 of what the law's proof needs: words, walks of functions and plain facts. -/
import Derived.Test.YtlmglnobdcgbeaaGreatG01
import Derived.Test.YtlmglnobdcgbeaaGreatG03
import Derived.Test.YtlmglnobdcgbeaaGreatG04
import Derived.Test.YtlmglnobdcgbeaaGreatG07
set_option linter.unusedVariables false
set_option linter.unusedSimpArgs false
namespace Go.Proofs.YtlmglnobdcgbeaaGreat.P
open Go.RowKit Go.Proofs.YtlmglnobdcgbeaaGreatW.PrintWords Go.Proofs.YtlmglnobdcgbeaaGreatW.PrintLast Go.Proofs.YtlmglnobdcgbeaaGreatW.PrintMore
attribute [local go_sem] max2_int min2_int max_two min_two max_three min_three max_four min_four
mutual
def aA1.j0 : Nat → List Int → Int → List Int → List (S42) → Int → Int → Bool → List (S67) → List Int → Int → Int → Option (Bool)
 | 0, _, _, _, _, _, _, _, _, _, _, _ => none
 | k + 1, x2, x8, x9, x11, x15, x16, x98, bD, bH, bI, bG => if x98 = true then (some false) else (aA1.l0 k x2 x8 x9 x11 x15 x16 0 bD bH bI bG)
def aA1.l0 : Nat → List Int → Int → List Int → List (S42) → Int → Int → Int → List (S67) → List Int → Int → Int → Option (Bool)
 | 0, _, _, _, _, _, _, _, _, _, _, _ => none
 | k + 1, x2, x8, x9, x11, x15, x16, x18, bD, bH, bI, bG => if x18 < 3 then (if 0 ≤ x18 then ((aA6.f k bD bH (rd_L23 ([x2, [0], [255]] : List (List Int)) x18)).bind fun cH => ((aA3.f k bD bH x9 x8 cH).bind fun bB => (aA1.l1 k x2 x8 x9 x11 x15 x16 x18 cH bB 0 0 bD bH bI bG))) else (none)) else (if (x9.length : Int) = 0 then ((aD0.f).bind fun mK => (some mK)) else (if x15 ≥ 0 then (if x15 < (x9.length : Int) then ((aD0.f).bind fun mL => (some mL)) else (some false)) else (some false)))
def aA1.l1 : Nat → List Int → Int → List Int → List (S42) → Int → Int → Int → List Int → List Int → Int → Int → List (S67) → List Int → Int → Int → Option (Bool)
 | 0, _, _, _, _, _, _, _, _, _, _, _, _, _, _, _ => none
 | k + 1, x2, x8, x9, x11, x15, x16, x18, x19, x20, x21, x22, bD, bH, bI, bG => if x22 < (x20.length : Int) then (if 0 ≤ x22 then (if x22 < (x11.length : Int) then (if (rd x20 x22) < ((aA8 x11 x22).f0) then (aA1.j3 k x2 x8 x9 x11 x15 x16 x18 x19 x20 x21 x22 true bD bH bI bG) else (if (rd x20 x22) > ((aA8 x11 x22).f1) then (aA1.j3 k x2 x8 x9 x11 x15 x16 x18 x19 x20 x21 x22 true bD bH bI bG) else (if x18 = 1 then (if (rd x20 x22) = ((aA8 x11 x22).f0) then (if x18 = 2 then (aA1.j3 k x2 x8 x9 x11 x15 x16 x18 x19 x20 x21 x22 ((rd x20 x22) != ((aA8 x11 x22).f1)) bD bH bI bG) else (aA1.j3 k x2 x8 x9 x11 x15 x16 x18 x19 x20 x21 x22 false bD bH bI bG)) else (aA1.j3 k x2 x8 x9 x11 x15 x16 x18 x19 x20 x21 x22 true bD bH bI bG)) else (if x18 = 2 then (aA1.j3 k x2 x8 x9 x11 x15 x16 x18 x19 x20 x21 x22 ((rd x20 x22) != ((aA8 x11 x22).f1)) bD bH bI bG) else (aA1.j3 k x2 x8 x9 x11 x15 x16 x18 x19 x20 x21 x22 false bD bH bI bG))))) else (none)) else (none)) else (if x21 < bI then (aA1.j5 k x2 x8 x9 x11 x15 x16 x18 true bD bH bI bG) else (if x21 > bG then (aA1.j5 k x2 x8 x9 x11 x15 x16 x18 true bD bH bI bG) else (if x18 = 1 then (if x21 = bI then (if x18 = 2 then (aA1.j5 k x2 x8 x9 x11 x15 x16 x18 (x21 != bG) bD bH bI bG) else (aA1.j5 k x2 x8 x9 x11 x15 x16 x18 false bD bH bI bG)) else (aA1.j5 k x2 x8 x9 x11 x15 x16 x18 true bD bH bI bG)) else (if x18 = 2 then (aA1.j5 k x2 x8 x9 x11 x15 x16 x18 (x21 != bG) bD bH bI bG) else (aA1.j5 k x2 x8 x9 x11 x15 x16 x18 false bD bH bI bG)))))
def aA1.j3 : Nat → List Int → Int → List Int → List (S42) → Int → Int → Int → List Int → List Int → Int → Int → Bool → List (S67) → List Int → Int → Int → Option (Bool)
 | 0, _, _, _, _, _, _, _, _, _, _, _, _, _, _, _, _ => none
 | k + 1, x2, x8, x9, x11, x15, x16, x18, x19, x20, x21, x22, x168, bD, bH, bI, bG => if x168 = true then (some false) else (if 0 ≤ x22 then (if x22 < (x20.length : Int) then (if x22 < (x19.length : Int) then (if x22 < (bD.length : Int) then (if (wrap64 ((rd x20 x22) - ((aA4 bD x22).f1))) > x16 then (aA1.j4 k x2 x8 x9 x11 x15 x16 x18 x19 x20 (mx x21 (wrap64 ((rd x20 x22) + (rd x19 x22)))) x22 true bD bH bI bG) else (if x18 = 2 then (if x22 = x15 then (aA1.j4 k x2 x8 x9 x11 x15 x16 x18 x19 x20 (mx x21 (wrap64 ((rd x20 x22) + (rd x19 x22)))) x22 ((wrap64 ((rd x20 x22) - ((aA4 bD x22).f1))) != x16) bD bH bI bG) else (aA1.j4 k x2 x8 x9 x11 x15 x16 x18 x19 x20 (mx x21 (wrap64 ((rd x20 x22) + (rd x19 x22)))) x22 false bD bH bI bG)) else (aA1.j4 k x2 x8 x9 x11 x15 x16 x18 x19 x20 (mx x21 (wrap64 ((rd x20 x22) + (rd x19 x22)))) x22 false bD bH bI bG))) else (none)) else (none)) else (none)) else (none))
def aA1.j4 : Nat → List Int → Int → List Int → List (S42) → Int → Int → Int → List Int → List Int → Int → Int → Bool → List (S67) → List Int → Int → Int → Option (Bool)
 | 0, _, _, _, _, _, _, _, _, _, _, _, _, _, _, _, _ => none
 | k + 1, x2, x8, x9, x11, x15, x16, x18, x19, x20, x21, x22, x216, bD, bH, bI, bG => if x216 = true then (some false) else (aA1.l1 k x2 x8 x9 x11 x15 x16 x18 x19 x20 x21 (wrap64 (x22 + 1)) bD bH bI bG)
def aA1.j5 : Nat → List Int → Int → List Int → List (S42) → Int → Int → Int → Bool → List (S67) → List Int → Int → Int → Option (Bool)
 | 0, _, _, _, _, _, _, _, _, _, _, _, _ => none
 | k + 1, x2, x8, x9, x11, x15, x16, x18, x246, bD, bH, bI, bG => if x246 = true then (some false) else (aA1.l0 k x2 x8 x9 x11 x15 x16 (wrap64 (x18 + 1)) bD bH bI bG)
end
def aA1.f (k : Nat) (dG : List (S126)) (dP : Int) (dH : List Int) (a1 : Int) (l2 : List Int) : Option (Bool) := (aA2.f k dG dP dH).bind fun bt102 => ((aB4.f bt102.1 bt102.2).bind fun bt109 => ((aC2.f k bt109.1 bt109.2).bind fun bt115 => ((aB4.f bt102.1 bt102.2).bind fun bt119 => ((aC0.f k bt119.1 bt119.2 (wrap64 (1 + (Int.tmod (wrap64 (a1)) 5)))).bind fun bt125 => ((aB4.f bt102.1 bt102.2).bind fun bt129 => ((aC4.f k bt129.1 bt129.2 (wrap64 (1 + (Int.tmod (wrap64 (a1)) 5)))).bind fun bt135 => ((aB4.f bt102.1 bt102.2).bind fun bt139 => ((aC1.f k bt139.1 bt139.2 (wrap64 (1 + (Int.tmod (wrap64 (a1)) 5)))).bind fun bt145 => (if bt115.2 = 0 then (if bt125.2 = 0 then (if bt135.2.2 = 0 then ((aA7.f k bt115.1 (bt102.1.length : Int)).bind fun jY => (if jY = true then (if (bt125.1.length : Int) = (bt115.1.length : Int) then (if ((bt145.2.2 == 7) != ((bt115.1.length : Int) == 0)) = true then (aA1.j0 k l2 (wrap64 (1 + (Int.tmod (wrap64 (a1)) 5))) bt115.1 bt125.1 bt145.1 bt145.2.1 true bt102.1 bt102.2 bt135.1 bt135.2.1) else (if bt145.2.2 = 0 then (aA1.j0 k l2 (wrap64 (1 + (Int.tmod (wrap64 (a1)) 5))) bt115.1 bt125.1 bt145.1 bt145.2.1 false bt102.1 bt102.2 bt135.1 bt135.2.1) else (aA1.j0 k l2 (wrap64 (1 + (Int.tmod (wrap64 (a1)) 5))) bt115.1 bt125.1 bt145.1 bt145.2.1 (bt145.2.2 != 7) bt102.1 bt102.2 bt135.1 bt135.2.1))) else (aA1.j0 k l2 (wrap64 (1 + (Int.tmod (wrap64 (a1)) 5))) bt115.1 bt125.1 bt145.1 bt145.2.1 true bt102.1 bt102.2 bt135.1 bt135.2.1)) else (aA1.j0 k l2 (wrap64 (1 + (Int.tmod (wrap64 (a1)) 5))) bt115.1 bt125.1 bt145.1 bt145.2.1 true bt102.1 bt102.2 bt135.1 bt135.2.1))) else (aA1.j0 k l2 (wrap64 (1 + (Int.tmod (wrap64 (a1)) 5))) bt115.1 bt125.1 bt145.1 bt145.2.1 true bt102.1 bt102.2 bt135.1 bt135.2.1)) else (aA1.j0 k l2 (wrap64 (1 + (Int.tmod (wrap64 (a1)) 5))) bt115.1 bt125.1 bt145.1 bt145.2.1 true bt102.1 bt102.2 bt135.1 bt135.2.1)) else (aA1.j0 k l2 (wrap64 (1 + (Int.tmod (wrap64 (a1)) 5))) bt115.1 bt125.1 bt145.1 bt145.2.1 true bt102.1 bt102.2 bt135.1 bt135.2.1))))))))))
theorem aA1.mono_l : ∀ k, (∀ y0 y1 y2 y3 y4 y5 y6 y7 y8 y9 dU, LeO (aA1.j0 k y0 y1 y2 y3 y4 y5 y6 y7 y8 y9 dU) (aA1.j0 (k + 1) y0 y1 y2 y3 y4 y5 y6 y7 y8 y9 dU)) ∧ (∀ y0 y1 y2 y3 y4 y5 y6 y7 y8 y9 dU, LeO (aA1.l0 k y0 y1 y2 y3 y4 y5 y6 y7 y8 y9 dU) (aA1.l0 (k + 1) y0 y1 y2 y3 y4 y5 y6 y7 y8 y9 dU)) ∧ (∀ y0 y1 y2 y3 y4 y5 y6 y7 y8 y9 dU hU hX hZ iA, LeO (aA1.l1 k y0 y1 y2 y3 y4 y5 y6 y7 y8 y9 dU hU hX hZ iA) (aA1.l1 (k + 1) y0 y1 y2 y3 y4 y5 y6 y7 y8 y9 dU hU hX hZ iA)) ∧ (∀ y0 y1 y2 y3 y4 y5 y6 y7 y8 y9 dU hU hX hZ iA jL, LeO (aA1.j3 k y0 y1 y2 y3 y4 y5 y6 y7 y8 y9 dU hU hX hZ iA jL) (aA1.j3 (k + 1) y0 y1 y2 y3 y4 y5 y6 y7 y8 y9 dU hU hX hZ iA jL)) ∧ (∀ y0 y1 y2 y3 y4 y5 y6 y7 y8 y9 dU hU hX hZ iA jL, LeO (aA1.j4 k y0 y1 y2 y3 y4 y5 y6 y7 y8 y9 dU hU hX hZ iA jL) (aA1.j4 (k + 1) y0 y1 y2 y3 y4 y5 y6 y7 y8 y9 dU hU hX hZ iA jL)) ∧ (∀ y0 y1 y2 y3 y4 y5 y6 y7 y8 y9 dU hU, LeO (aA1.j5 k y0 y1 y2 y3 y4 y5 y6 y7 y8 y9 dU hU) (aA1.j5 (k + 1) y0 y1 y2 y3 y4 y5 y6 y7 y8 y9 dU hU))
 | 0 => ⟨fun _ _ _ _ _ _ _ _ _ _ _ r h => by simp [aA1.j0] at h, fun _ _ _ _ _ _ _ _ _ _ _ r h => by simp [aA1.l0] at h, fun _ _ _ _ _ _ _ _ _ _ _ _ _ _ _ r h => by simp [aA1.l1] at h, fun _ _ _ _ _ _ _ _ _ _ _ _ _ _ _ _ r h => by simp [aA1.j3] at h, fun _ _ _ _ _ _ _ _ _ _ _ _ _ _ _ _ r h => by simp [aA1.j4] at h, fun _ _ _ _ _ _ _ _ _ _ _ _ r h => by simp [aA1.j5] at h⟩
 | k + 1 => by
  obtain ⟨ih0, ih1, ih2, ih3, ih4, ih5⟩ := aA1.mono_l k
  refine ⟨?_, ?_, ?_, ?_, ?_, ?_⟩
  ·intro y0 y1 y2 y3 y4 y5 y6 y7 y8 y9 dU
   unfold aA1.j0
   repeat' first
   | (with_reducible exact ih0 _ _ _ _ _ _ _ _ _ _ _)
   | (with_reducible exact ih1 _ _ _ _ _ _ _ _ _ _ _)
   | (with_reducible exact ih2 _ _ _ _ _ _ _ _ _ _ _ _ _ _ _)
   | (with_reducible exact ih3 _ _ _ _ _ _ _ _ _ _ _ _ _ _ _ _)
   | (with_reducible exact ih4 _ _ _ _ _ _ _ _ _ _ _ _ _ _ _ _)
   | (with_reducible exact ih5 _ _ _ _ _ _ _ _ _ _ _ _)
   | (with_reducible exact aC4.mono _ _ _ _)
   | (with_reducible exact aC2.mono _ _ _)
   | (with_reducible exact aC0.mono _ _ _ _)
   | (with_reducible exact aC1.mono _ _ _ _)
   | (with_reducible exact aA2.mono _ _ _ _)
   | (with_reducible exact aA3.mono _ _ _ _ _ _)
   | (with_reducible exact aA7.mono _ _ _)
   | (with_reducible exact aA6.mono _ _ _ _)
   | (with_reducible exact LeO.refl _)
   | (with_reducible exact LeO.none _)
   | (with_reducible refine LeO.ite ?_ ?_)
   | (with_reducible refine LeO.bind ?_ (fun _ => ?_))
   | exact ih0 _ _ _ _ _ _ _ _ _ _ _
   | exact ih1 _ _ _ _ _ _ _ _ _ _ _
   | exact ih2 _ _ _ _ _ _ _ _ _ _ _ _ _ _ _
   | exact ih3 _ _ _ _ _ _ _ _ _ _ _ _ _ _ _ _
   | exact ih4 _ _ _ _ _ _ _ _ _ _ _ _ _ _ _ _
   | exact ih5 _ _ _ _ _ _ _ _ _ _ _ _
   | exact aC4.mono _ _ _ _
   | exact aC2.mono _ _ _
   | exact aC0.mono _ _ _ _
   | exact aC1.mono _ _ _ _
   | exact aA2.mono _ _ _ _
   | exact aA3.mono _ _ _ _ _ _
   | exact aA7.mono _ _ _
   | exact aA6.mono _ _ _ _
   | exact LeO.none _
   | refine LeO.ite ?_ ?_
   | refine LeO.bind ?_ (fun _ => ?_)
  ·intro y0 y1 y2 y3 y4 y5 y6 y7 y8 y9 dU
   unfold aA1.l0
   repeat' first
   | (with_reducible exact ih0 _ _ _ _ _ _ _ _ _ _ _)
   | (with_reducible exact ih1 _ _ _ _ _ _ _ _ _ _ _)
   | (with_reducible exact ih2 _ _ _ _ _ _ _ _ _ _ _ _ _ _ _)
   | (with_reducible exact ih3 _ _ _ _ _ _ _ _ _ _ _ _ _ _ _ _)
   | (with_reducible exact ih4 _ _ _ _ _ _ _ _ _ _ _ _ _ _ _ _)
   | (with_reducible exact ih5 _ _ _ _ _ _ _ _ _ _ _ _)
   | (with_reducible exact aC4.mono _ _ _ _)
   | (with_reducible exact aC2.mono _ _ _)
   | (with_reducible exact aC0.mono _ _ _ _)
   | (with_reducible exact aC1.mono _ _ _ _)
   | (with_reducible exact aA2.mono _ _ _ _)
   | (with_reducible exact aA3.mono _ _ _ _ _ _)
   | (with_reducible exact aA7.mono _ _ _)
   | (with_reducible exact aA6.mono _ _ _ _)
   | (with_reducible exact LeO.refl _)
   | (with_reducible exact LeO.none _)
   | (with_reducible refine LeO.ite ?_ ?_)
   | (with_reducible refine LeO.bind ?_ (fun _ => ?_))
   | exact ih0 _ _ _ _ _ _ _ _ _ _ _
   | exact ih1 _ _ _ _ _ _ _ _ _ _ _
   | exact ih2 _ _ _ _ _ _ _ _ _ _ _ _ _ _ _
   | exact ih3 _ _ _ _ _ _ _ _ _ _ _ _ _ _ _ _
   | exact ih4 _ _ _ _ _ _ _ _ _ _ _ _ _ _ _ _
   | exact ih5 _ _ _ _ _ _ _ _ _ _ _ _
   | exact aC4.mono _ _ _ _
   | exact aC2.mono _ _ _
   | exact aC0.mono _ _ _ _
   | exact aC1.mono _ _ _ _
   | exact aA2.mono _ _ _ _
   | exact aA3.mono _ _ _ _ _ _
   | exact aA7.mono _ _ _
   | exact aA6.mono _ _ _ _
   | exact LeO.none _
   | refine LeO.ite ?_ ?_
   | refine LeO.bind ?_ (fun _ => ?_)
  ·intro y0 y1 y2 y3 y4 y5 y6 y7 y8 y9 dU hU hX hZ iA
   unfold aA1.l1
   repeat' first
   | (with_reducible exact ih0 _ _ _ _ _ _ _ _ _ _ _)
   | (with_reducible exact ih1 _ _ _ _ _ _ _ _ _ _ _)
   | (with_reducible exact ih2 _ _ _ _ _ _ _ _ _ _ _ _ _ _ _)
   | (with_reducible exact ih3 _ _ _ _ _ _ _ _ _ _ _ _ _ _ _ _)
   | (with_reducible exact ih4 _ _ _ _ _ _ _ _ _ _ _ _ _ _ _ _)
   | (with_reducible exact ih5 _ _ _ _ _ _ _ _ _ _ _ _)
   | (with_reducible exact aC4.mono _ _ _ _)
   | (with_reducible exact aC2.mono _ _ _)
   | (with_reducible exact aC0.mono _ _ _ _)
   | (with_reducible exact aC1.mono _ _ _ _)
   | (with_reducible exact aA2.mono _ _ _ _)
   | (with_reducible exact aA3.mono _ _ _ _ _ _)
   | (with_reducible exact aA7.mono _ _ _)
   | (with_reducible exact aA6.mono _ _ _ _)
   | (with_reducible exact LeO.refl _)
   | (with_reducible exact LeO.none _)
   | (with_reducible refine LeO.ite ?_ ?_)
   | (with_reducible refine LeO.bind ?_ (fun _ => ?_))
   | exact ih0 _ _ _ _ _ _ _ _ _ _ _
   | exact ih1 _ _ _ _ _ _ _ _ _ _ _
   | exact ih2 _ _ _ _ _ _ _ _ _ _ _ _ _ _ _
   | exact ih3 _ _ _ _ _ _ _ _ _ _ _ _ _ _ _ _
   | exact ih4 _ _ _ _ _ _ _ _ _ _ _ _ _ _ _ _
   | exact ih5 _ _ _ _ _ _ _ _ _ _ _ _
   | exact aC4.mono _ _ _ _
   | exact aC2.mono _ _ _
   | exact aC0.mono _ _ _ _
   | exact aC1.mono _ _ _ _
   | exact aA2.mono _ _ _ _
   | exact aA3.mono _ _ _ _ _ _
   | exact aA7.mono _ _ _
   | exact aA6.mono _ _ _ _
   | exact LeO.none _
   | refine LeO.ite ?_ ?_
   | refine LeO.bind ?_ (fun _ => ?_)
  ·intro y0 y1 y2 y3 y4 y5 y6 y7 y8 y9 dU hU hX hZ iA jL
   unfold aA1.j3
   repeat' first
   | (with_reducible exact ih0 _ _ _ _ _ _ _ _ _ _ _)
   | (with_reducible exact ih1 _ _ _ _ _ _ _ _ _ _ _)
   | (with_reducible exact ih2 _ _ _ _ _ _ _ _ _ _ _ _ _ _ _)
   | (with_reducible exact ih3 _ _ _ _ _ _ _ _ _ _ _ _ _ _ _ _)
   | (with_reducible exact ih4 _ _ _ _ _ _ _ _ _ _ _ _ _ _ _ _)
   | (with_reducible exact ih5 _ _ _ _ _ _ _ _ _ _ _ _)
   | (with_reducible exact aC4.mono _ _ _ _)
   | (with_reducible exact aC2.mono _ _ _)
   | (with_reducible exact aC0.mono _ _ _ _)
   | (with_reducible exact aC1.mono _ _ _ _)
   | (with_reducible exact aA2.mono _ _ _ _)
   | (with_reducible exact aA3.mono _ _ _ _ _ _)
   | (with_reducible exact aA7.mono _ _ _)
   | (with_reducible exact aA6.mono _ _ _ _)
   | (with_reducible exact LeO.refl _)
   | (with_reducible exact LeO.none _)
   | (with_reducible refine LeO.ite ?_ ?_)
   | (with_reducible refine LeO.bind ?_ (fun _ => ?_))
   | exact ih0 _ _ _ _ _ _ _ _ _ _ _
   | exact ih1 _ _ _ _ _ _ _ _ _ _ _
   | exact ih2 _ _ _ _ _ _ _ _ _ _ _ _ _ _ _
   | exact ih3 _ _ _ _ _ _ _ _ _ _ _ _ _ _ _ _
   | exact ih4 _ _ _ _ _ _ _ _ _ _ _ _ _ _ _ _
   | exact ih5 _ _ _ _ _ _ _ _ _ _ _ _
   | exact aC4.mono _ _ _ _
   | exact aC2.mono _ _ _
   | exact aC0.mono _ _ _ _
   | exact aC1.mono _ _ _ _
   | exact aA2.mono _ _ _ _
   | exact aA3.mono _ _ _ _ _ _
   | exact aA7.mono _ _ _
   | exact aA6.mono _ _ _ _
   | exact LeO.none _
   | refine LeO.ite ?_ ?_
   | refine LeO.bind ?_ (fun _ => ?_)
  ·intro y0 y1 y2 y3 y4 y5 y6 y7 y8 y9 dU hU hX hZ iA jL
   unfold aA1.j4
   repeat' first
   | (with_reducible exact ih0 _ _ _ _ _ _ _ _ _ _ _)
   | (with_reducible exact ih1 _ _ _ _ _ _ _ _ _ _ _)
   | (with_reducible exact ih2 _ _ _ _ _ _ _ _ _ _ _ _ _ _ _)
   | (with_reducible exact ih3 _ _ _ _ _ _ _ _ _ _ _ _ _ _ _ _)
   | (with_reducible exact ih4 _ _ _ _ _ _ _ _ _ _ _ _ _ _ _ _)
   | (with_reducible exact ih5 _ _ _ _ _ _ _ _ _ _ _ _)
   | (with_reducible exact aC4.mono _ _ _ _)
   | (with_reducible exact aC2.mono _ _ _)
   | (with_reducible exact aC0.mono _ _ _ _)
   | (with_reducible exact aC1.mono _ _ _ _)
   | (with_reducible exact aA2.mono _ _ _ _)
   | (with_reducible exact aA3.mono _ _ _ _ _ _)
   | (with_reducible exact aA7.mono _ _ _)
   | (with_reducible exact aA6.mono _ _ _ _)
   | (with_reducible exact LeO.refl _)
   | (with_reducible exact LeO.none _)
   | (with_reducible refine LeO.ite ?_ ?_)
   | (with_reducible refine LeO.bind ?_ (fun _ => ?_))
   | exact ih0 _ _ _ _ _ _ _ _ _ _ _
   | exact ih1 _ _ _ _ _ _ _ _ _ _ _
   | exact ih2 _ _ _ _ _ _ _ _ _ _ _ _ _ _ _
   | exact ih3 _ _ _ _ _ _ _ _ _ _ _ _ _ _ _ _
   | exact ih4 _ _ _ _ _ _ _ _ _ _ _ _ _ _ _ _
   | exact ih5 _ _ _ _ _ _ _ _ _ _ _ _
   | exact aC4.mono _ _ _ _
   | exact aC2.mono _ _ _
   | exact aC0.mono _ _ _ _
   | exact aC1.mono _ _ _ _
   | exact aA2.mono _ _ _ _
   | exact aA3.mono _ _ _ _ _ _
   | exact aA7.mono _ _ _
   | exact aA6.mono _ _ _ _
   | exact LeO.none _
   | refine LeO.ite ?_ ?_
   | refine LeO.bind ?_ (fun _ => ?_)
  ·intro y0 y1 y2 y3 y4 y5 y6 y7 y8 y9 dU hU
   unfold aA1.j5
   repeat' first
   | (with_reducible exact ih0 _ _ _ _ _ _ _ _ _ _ _)
   | (with_reducible exact ih1 _ _ _ _ _ _ _ _ _ _ _)
   | (with_reducible exact ih2 _ _ _ _ _ _ _ _ _ _ _ _ _ _ _)
   | (with_reducible exact ih3 _ _ _ _ _ _ _ _ _ _ _ _ _ _ _ _)
   | (with_reducible exact ih4 _ _ _ _ _ _ _ _ _ _ _ _ _ _ _ _)
   | (with_reducible exact ih5 _ _ _ _ _ _ _ _ _ _ _ _)
   | (with_reducible exact aC4.mono _ _ _ _)
   | (with_reducible exact aC2.mono _ _ _)
   | (with_reducible exact aC0.mono _ _ _ _)
   | (with_reducible exact aC1.mono _ _ _ _)
   | (with_reducible exact aA2.mono _ _ _ _)
   | (with_reducible exact aA3.mono _ _ _ _ _ _)
   | (with_reducible exact aA7.mono _ _ _)
   | (with_reducible exact aA6.mono _ _ _ _)
   | (with_reducible exact LeO.refl _)
   | (with_reducible exact LeO.none _)
   | (with_reducible refine LeO.ite ?_ ?_)
   | (with_reducible refine LeO.bind ?_ (fun _ => ?_))
   | exact ih0 _ _ _ _ _ _ _ _ _ _ _
   | exact ih1 _ _ _ _ _ _ _ _ _ _ _
   | exact ih2 _ _ _ _ _ _ _ _ _ _ _ _ _ _ _
   | exact ih3 _ _ _ _ _ _ _ _ _ _ _ _ _ _ _ _
   | exact ih4 _ _ _ _ _ _ _ _ _ _ _ _ _ _ _ _
   | exact ih5 _ _ _ _ _ _ _ _ _ _ _ _
   | exact aC4.mono _ _ _ _
   | exact aC2.mono _ _ _
   | exact aC0.mono _ _ _ _
   | exact aC1.mono _ _ _ _
   | exact aA2.mono _ _ _ _
   | exact aA3.mono _ _ _ _ _ _
   | exact aA7.mono _ _ _
   | exact aA6.mono _ _ _ _
   | exact LeO.none _
   | refine LeO.ite ?_ ?_
   | refine LeO.bind ?_ (fun _ => ?_)
theorem aA1.dead_j0 : ∀ k y0 y1 y2 y3 y4 y5 y7 y8 y9 dU r, aA1.j0 k y0 y1 y2 y3 y4 y5 true y7 y8 y9 dU = some r → r = true → False := by
 intro k y0 y1 y2 y3 y4 y5 y7 y8 y9 dU r h hr
 cases k with
 | zero => simp [aA1.j0] at h
 | succ k => exact absurd ((Option.some.inj (show (some false : Option Bool) = some r from h)).trans hr) (by simp)
theorem aA1.dead_j3 : ∀ k y0 y1 y2 y3 y4 y5 y6 y7 y8 y9 dU hX hZ iA jL r, aA1.j3 k y0 y1 y2 y3 y4 y5 y6 y7 y8 y9 dU true hX hZ iA jL = some r → r = true → False := by
 intro k y0 y1 y2 y3 y4 y5 y6 y7 y8 y9 dU hX hZ iA jL r h hr
 cases k with
 | zero => simp [aA1.j3] at h
 | succ k => exact absurd ((Option.some.inj (show (some false : Option Bool) = some r from h)).trans hr) (by simp)
theorem aA1.dead_j4 : ∀ k y0 y1 y2 y3 y4 y5 y6 y7 y8 y9 dU hX hZ iA jL r, aA1.j4 k y0 y1 y2 y3 y4 y5 y6 y7 y8 y9 dU true hX hZ iA jL = some r → r = true → False := by
 intro k y0 y1 y2 y3 y4 y5 y6 y7 y8 y9 dU hX hZ iA jL r h hr
 cases k with
 | zero => simp [aA1.j4] at h
 | succ k => exact absurd ((Option.some.inj (show (some false : Option Bool) = some r from h)).trans hr) (by simp)
theorem aA1.dead_j5 : ∀ k y0 y1 y2 y3 y4 y5 y6 y8 y9 dU hU r, aA1.j5 k y0 y1 y2 y3 y4 y5 y6 true y8 y9 dU hU = some r → r = true → False := by
 intro k y0 y1 y2 y3 y4 y5 y6 y8 y9 dU hU r h hr
 cases k with
 | zero => simp [aA1.j5] at h
 | succ k => exact absurd ((Option.some.inj (show (some false : Option Bool) = some r from h)).trans hr) (by simp)
theorem aA1.mono : ∀ a0 a1 a2 a3 a4 k, LeO (aA1.f k a0 a1 a2 a3 a4) (aA1.f (k + 1) a0 a1 a2 a3 a4) := by
 intro a0 a1 a2 a3 a4 k
 obtain ⟨ih0, ih1, ih2, ih3, ih4, ih5⟩ := aA1.mono_l k
 unfold aA1.f
 repeat' first
   | (with_reducible exact ih0 _ _ _ _ _ _ _ _ _ _ _)
   | (with_reducible exact ih1 _ _ _ _ _ _ _ _ _ _ _)
   | (with_reducible exact ih2 _ _ _ _ _ _ _ _ _ _ _ _ _ _ _)
   | (with_reducible exact ih3 _ _ _ _ _ _ _ _ _ _ _ _ _ _ _ _)
   | (with_reducible exact ih4 _ _ _ _ _ _ _ _ _ _ _ _ _ _ _ _)
   | (with_reducible exact ih5 _ _ _ _ _ _ _ _ _ _ _ _)
   | (with_reducible exact aC4.mono _ _ _ _)
   | (with_reducible exact aC2.mono _ _ _)
   | (with_reducible exact aC0.mono _ _ _ _)
   | (with_reducible exact aC1.mono _ _ _ _)
   | (with_reducible exact aA2.mono _ _ _ _)
   | (with_reducible exact aA3.mono _ _ _ _ _ _)
   | (with_reducible exact aA7.mono _ _ _)
   | (with_reducible exact aA6.mono _ _ _ _)
   | (with_reducible exact LeO.refl _)
   | (with_reducible exact LeO.none _)
   | (with_reducible refine LeO.ite ?_ ?_)
   | (with_reducible refine LeO.bind ?_ (fun _ => ?_))
   | exact ih0 _ _ _ _ _ _ _ _ _ _ _
   | exact ih1 _ _ _ _ _ _ _ _ _ _ _
   | exact ih2 _ _ _ _ _ _ _ _ _ _ _ _ _ _ _
   | exact ih3 _ _ _ _ _ _ _ _ _ _ _ _ _ _ _ _
   | exact ih4 _ _ _ _ _ _ _ _ _ _ _ _ _ _ _ _
   | exact ih5 _ _ _ _ _ _ _ _ _ _ _ _
   | exact aC4.mono _ _ _ _
   | exact aC2.mono _ _ _
   | exact aC0.mono _ _ _ _
   | exact aC1.mono _ _ _ _
   | exact aA2.mono _ _ _ _
   | exact aA3.mono _ _ _ _ _ _
   | exact aA7.mono _ _ _
   | exact aA6.mono _ _ _ _
   | exact LeO.none _
   | refine LeO.ite ?_ ?_
   | refine LeO.bind ?_ (fun _ => ?_)
def aA1.T11 : Bool × List (List Nat × List Nat) := (true, [([], []), ([], []), ([], []), ([], []), ([1, 2, 3], [1, 2, 3]), ([], []), ([4, 5], [4, 5]), ([6], [6]), ([0, 7], [0, 7]), ([8, 8, 0, 1, 2, 3, 4, 5, 6, 7, 8], [8])])
def aA1.B11 : List Nat := [0, 0, 0, 0, 14, 0, 62, 126, 255, 511]
theorem aA1.tab11 : rtab .any (opsOf Tryz.f11 11) = aA1.T11 := by kernel_rfl
theorem aA1.bits11 : waitsOk aA1.T11.2 aA1.B11 = true := by kernel_rfl
def aA1.T17 : Bool × List (List Nat × List Nat) := (true, [([], []), ([], []), ([0, 1], [0, 1]), ([2], [2]), ([], []), ([4], [4]), ([3, 5], [3, 5]), ([6], [6]), ([7], [7]), ([7], [7]), ([8, 9, 7], [7, 8, 9]), ([10, 7], [7, 10]), ([7], [7]), ([12, 7], [7, 12]), ([11, 13, 7], [7, 11, 13]), ([7, 14], [7, 14]), ([15, 7], [15]), ([16], [16]), ([17, 16], [16, 17]), ([18, 16, 16], [16, 18]), ([19], [19]), ([19], [19]), ([20, 21, 19], [19, 20, 21]), ([22, 19], [19, 22]), ([19], [19]), ([24, 19], [19, 24]), ([23, 25, 19], [19, 23, 25]), ([19, 26, 16], [16, 19, 26]), ([16, 27], [16, 27]), ([28, 19], [28]), ([29], [29]), ([30, 29], [29, 30]), ([31, 29, 29], [29, 31]), ([32], [32]), ([32], [32]), ([33, 34, 32], [32, 33, 34]), ([35, 32], [32, 35]), ([32], [32]), ([37, 32], [32, 37]), ([36, 38, 32], [32, 36, 38]), ([32, 39, 29], [29, 32, 39]), ([29, 40], [29, 40])])
def aA1.B17 : List Nat := [0, 0, 3, 7, 0, 16, 63, 127, 255, 255, 1023, 2047, 255, 4351, 16383, 32767, 65535, 131071, 262143, 524287, 1048575, 1048575, 4194303, 8388607, 1048575, 17825791, 67108863, 134217727, 268435455, 536870911, 1073741823, 2147483647, 4294967295, 8589934591, 8589934591, 34359738367, 68719476735, 8589934591, 146028888063, 549755813887, 1099511627775, 2199023255551]
theorem aA1.tab17 : rtab .any (opsOf Tryz.f11 17) = aA1.T17 := by kernel_rfl
theorem aA1.bits17 : waitsOk aA1.T17.2 aA1.B17 = true := by kernel_rfl
def aA1.T19 : Bool × List (List Nat × List Nat) := (true, [([], []), ([], []), ([], []), ([1, 2], [1, 2]), ([3], [3]), ([], []), ([], []), ([5, 6], [5, 6]), ([7], [7]), ([4, 8], [4, 8]), ([0, 9], [0, 9]), ([10, 0, 1, 2, 3, 4, 5, 6, 7, 8, 9, 10], [0, 10])])
def aA1.B19 : List Nat := [0, 0, 0, 6, 14, 0, 0, 96, 224, 510, 1023, 2047]
theorem aA1.tab19 : rtab .any (opsOf Tryz.f11 19) = aA1.T19 := by kernel_rfl
theorem aA1.bits19 : waitsOk aA1.T19.2 aA1.B19 = true := by kernel_rfl
def aA1.T20 : Bool × List (List Nat × List Nat) := (true, [([], []), ([], []), ([0, 1], [0, 1]), ([2], [2]), ([], []), ([4], [4]), ([], []), ([5, 6], [5, 6]), ([7], [7]), ([8], [8]), ([3, 9], [3, 9]), ([], []), ([10, 11], [10, 11]), ([12], [12]), ([13], [13]), ([14, 13], [13, 14]), ([15, 13, 13], [13, 15]), ([16], [16]), ([16], [16]), ([17, 18, 16], [16, 17, 18]), ([16, 19, 13], [13, 16, 19]), ([20, 16, 13], [13, 20]), ([21], [21]), ([21], [21]), ([22, 23, 21], [21, 22, 23]), ([24, 21], [21, 24]), ([21], [21]), ([26, 21], [21, 26]), ([21], [21]), ([27, 28, 21], [21, 27, 28]), ([29, 21], [21, 29]), ([30, 21], [21, 30]), ([25, 31, 21], [21, 25, 31]), ([21], [21]), ([32, 33, 21], [21, 32, 33]), ([21, 34, 13], [13, 21, 34]), ([13, 35], [13, 35])])
def aA1.B20 : List Nat := [0, 0, 3, 7, 0, 16, 0, 112, 240, 496, 1023, 0, 4095, 8191, 16383, 32767, 65535, 131071, 131071, 524287, 1048575, 2097151, 4194303, 4194303, 16777215, 33554431, 4194303, 71303167, 4194303, 473956351, 1010827263, 2084569087, 4294967295, 4194303, 17179869183, 34359738367, 68719476735]
theorem aA1.tab20 : rtab .any (opsOf Tryz.f11 20) = aA1.T20 := by kernel_rfl
theorem aA1.bits20 : waitsOk aA1.T20.2 aA1.B20 = true := by kernel_rfl
set_option maxHeartbeats 8000000 in
set_option maxRecDepth 100000 in
theorem aA1.calls_true (k : Nat) (dZ : Option Addr) (eA : Nat) (dG : List (S126)) (dP : Int) (eB : Option Addr) (eC : Nat) (dH : List Int) (a1 : Int) (P2_ : Nat → Prop) (A2 : Option Addr) (c2 : Nat) (l2 : List Int) (r : Bool) (w : World) (hr0_0 : Kd.C k126 w dZ dG.length dG) (mC : dG.length ≤ eA) (hr0_2 : Kd.C (Kd.int .u8) w eB dH.length dH) (mD : dH.length ≤ eC) (hs2 : Kd.V (Kd.int .u8) 5 w w.heap.size (fun k_ => P2_ k_) (.slice A2 l2.length c2) l2) (hrt : r = true) (h : aA1.f k dG dP dH a1 l2 = some r) :
  Calls Tryz.prog 11 #[.agg #[.slice dZ dG.length eA, .int .u8 dP, .slice eB dH.length eC], .int .u8 a1, .slice A2 l2.length c2] w fun e w' => e = .returned (.bool r) ∧ Below w.heap.size w w' := by
 have hu76 := Tryz.underlying76
 have hu25 := Tryz.underlying25
 have hu42 := Tryz.underlying42
 have HRT := aM hrt
 clear hrt
 have nV := aM hr0_0
 have nW := aM mC
 clear hr0_0 mC
 have nX := aM hr0_2
 have nY := aM mD
 clear hr0_2 mD
 have eO := aM (show Kd.V (Kd.int .u8) 5 w w.heap.size (fun k_ => (P2_ k_ ∨ w.heap.size ≤ k_)) (.slice A2 l2.length c2) l2 from Kd.V_mono hs2 (fun k_ hk => .inl hk))
 have HB := aM (Below.refl w.heap.size w)
 have H : ((aA2.f k dG dP dH).bind fun bt102 => ((aB4.f bt102.1 bt102.2).bind fun bt109 => ((aC2.f k bt109.1 bt109.2).bind fun bt115 => ((aB4.f bt102.1 bt102.2).bind fun bt119 => ((aC0.f k bt119.1 bt119.2 (wrap64 (1 + (Int.tmod (wrap64 (a1)) 5)))).bind fun bt125 => ((aB4.f bt102.1 bt102.2).bind fun bt129 => ((aC4.f k bt129.1 bt129.2 (wrap64 (1 + (Int.tmod (wrap64 (a1)) 5)))).bind fun bt135 => ((aB4.f bt102.1 bt102.2).bind fun bt139 => ((aC1.f k bt139.1 bt139.2 (wrap64 (1 + (Int.tmod (wrap64 (a1)) 5)))).bind fun bt145 => (if bt115.2 = 0 then (if bt125.2 = 0 then (if bt135.2.2 = 0 then ((aA7.f k bt115.1 (bt102.1.length : Int)).bind fun jY => (if jY = true then (if (bt125.1.length : Int) = (bt115.1.length : Int) then (if ((bt145.2.2 == 7) != ((bt115.1.length : Int) == 0)) = true then (aA1.j0 k l2 (wrap64 (1 + (Int.tmod (wrap64 (a1)) 5))) bt115.1 bt125.1 bt145.1 bt145.2.1 true bt102.1 bt102.2 bt135.1 bt135.2.1) else (if bt145.2.2 = 0 then (aA1.j0 k l2 (wrap64 (1 + (Int.tmod (wrap64 (a1)) 5))) bt115.1 bt125.1 bt145.1 bt145.2.1 false bt102.1 bt102.2 bt135.1 bt135.2.1) else (aA1.j0 k l2 (wrap64 (1 + (Int.tmod (wrap64 (a1)) 5))) bt115.1 bt125.1 bt145.1 bt145.2.1 (bt145.2.2 != 7) bt102.1 bt102.2 bt135.1 bt135.2.1))) else (aA1.j0 k l2 (wrap64 (1 + (Int.tmod (wrap64 (a1)) 5))) bt115.1 bt125.1 bt145.1 bt145.2.1 true bt102.1 bt102.2 bt135.1 bt135.2.1)) else (aA1.j0 k l2 (wrap64 (1 + (Int.tmod (wrap64 (a1)) 5))) bt115.1 bt125.1 bt145.1 bt145.2.1 true bt102.1 bt102.2 bt135.1 bt135.2.1))) else (aA1.j0 k l2 (wrap64 (1 + (Int.tmod (wrap64 (a1)) 5))) bt115.1 bt125.1 bt145.1 bt145.2.1 true bt102.1 bt102.2 bt135.1 bt135.2.1)) else (aA1.j0 k l2 (wrap64 (1 + (Int.tmod (wrap64 (a1)) 5))) bt115.1 bt125.1 bt145.1 bt145.2.1 true bt102.1 bt102.2 bt135.1 bt135.2.1)) else (aA1.j0 k l2 (wrap64 (1 + (Int.tmod (wrap64 (a1)) 5))) bt115.1 bt125.1 bt145.1 bt145.2.1 true bt102.1 bt102.2 bt135.1 bt135.2.1))))))))))) = some r := h
 clear h
 obtain ⟨⟨aU, bE⟩, A4, H⟩ := bi H
 obtain ⟨⟨lQ, lR⟩, A5, H⟩ := bi H
 obtain ⟨⟨bL, jM⟩, A6, H⟩ := bi H
 obtain ⟨⟨lS, lT⟩, A7, H⟩ := bi H
 obtain ⟨⟨aG, jN⟩, A8, H⟩ := bi H
 obtain ⟨⟨lU, lV⟩, A9, H⟩ := bi H
 obtain ⟨⟨bQ, bS, jO⟩, tF, H⟩ := bi H
 obtain ⟨⟨mM, mN⟩, tG, H⟩ := bi H
 obtain ⟨⟨dI, dV, eM⟩, tH, H⟩ := bi H
 have mO := aM H
 clear H
 go_enter Tryz.func11, Tryz.ntmps11
 go_upto_region 6 with (first | ((with_reducible refine gate_dst (N := 3) rfl ?_); (try (refine gate_guard (by rfl) ?_; dsimp only)); refine bx 3 #[.slice dZ dG.length eA, .int .u8 dP, .slice eB dH.length eC] 76 ?_; intro bT hg w14 hbox hb; replace eO := ve eO hg hb; have aJ := hbox; have rP := gs HB hg; have rQ := gs HB hg; replace HB := bs HB hb; clear hb hbox hg; obtain ⟨fL, fM, fN, fO, fP, fQ⟩ := cf3 aJ) | ((with_reducible refine gc 48 rfl ?_); refine gL 25 Tryz.func48 #[.agg #[.slice dZ dG.length eA, .int .u8 dP, .slice eB dH.length eC]] ?_; (with_reducible refine (aA2.calls k _ _ dG dP _ _ dH aU bE _ ?cF ?cG ?cL ?cM A4.out).mono ?_); (case cF => exact pC (Kd.C_below nV.out HB.out)); (case cG => exact nW.out); (case cL => exact pC (Kd.C_below nX.out HB.out)); (case cM => exact nY.out); rintro e w16 ⟨tI, tJ, rfl, cW, eI, hb⟩; refine ⟨_, rfl, ?_⟩; replace eO := aM (Kd.V_mono (Kd.V_told (Kd.V_told (Kd.V_old (pV eO.out) hb) (Kd.R_base cW)) (Kd.R_base eI)) (fun _ h_ => h_.1)); have bK := aM (Kd.R_lower (Kd.R_newM (M := fun k_ => (w.heap.size ≤ k_)) cW (below_size (pE HB)) (fun k_ h_ => h_)) (below_size (pE HB))); have bJ := aM (Kd.R_lower (Kd.R_newM (M := fun k_ => (w.heap.size ≤ k_)) eI (below_size (pE HB)) (fun k_ h_ => h_)) (below_size (pE HB))); replace aJ := bb aJ hb; replace HB := bs HB hb; clear hb cW eI) | ((with_reducible refine gate_dst (N := 7) rfl ?_); (try (refine gate_guard (by rfl) ?_; dsimp only)); refine bx 7 #[.slice none 0 0, .slice none 0 0] 25 ?_; intro bA hg w17 hbox hb; replace eO := ve eO hg hb; replace bK := rb bK hb; replace bJ := rb bJ hb; have aH := hbox; have rR := gs HB hg; have rS := gs HB hg; replace HB := bs HB hb; have dX := nl aJ hg; have dY := nr aJ hg; replace aJ := bb aJ hb; clear hb hbox hg; obtain ⟨cC, bU, pH⟩ := Kd.R_slice bK.out; subst pH; have rT := dY.out; have rU := dX.out; obtain ⟨fR, fS, fT, fU⟩ := cf2 aH; obtain ⟨bX, bV, pI⟩ := Kd.R_slice bJ.out; subst pI) | ((with_reducible refine gc 49 rfl ?_); refine gL 32 Tryz.func49 #[.agg #[.slice cC aU.length bU, .slice bX bE.length bV]] ?_; (with_reducible refine (aB4.calls _ _ aU _ _ bE lQ lR _ ?cF ?cG ?cL ?cM A5.out).mono ?_); (case cF => refine (Kd.R_reads' (e := 67) (base := w.heap.size) (ok := fun k_ => ((w.heap.size ≤ k_) ∧ True)) (n := aU.length) (c := bU) ?_).2.2; exact (by refine pR ?_; exact (Kd.R_mono (Kd.R_far (p := ⟨bA, 1, none⟩) (Kd.R_far (p := ⟨bA, 0, none⟩) (Kd.R_types bK.out aH.out (by decide)) (fun _ hk => hk.2) (.slice cC aU.length bU)) (fun _ hk => hk.2) (.slice bX bE.length bV)) (fun _ h_ => h_.1)))); (case cG => exact (Kd.R_reads' bK.out).2.1); (case cL => refine (Kd.R_reads' (e := 3) (base := w.heap.size) (ok := fun k_ => ((w.heap.size ≤ k_) ∧ True)) (n := bE.length) (c := bV) ?_).2.2; exact (by refine pR ?_; exact (Kd.R_mono (Kd.R_far (p := ⟨bA, 1, none⟩) (Kd.R_far (p := ⟨bA, 0, none⟩) (Kd.R_types bJ.out aH.out (by decide)) (fun _ hk => hk.2) (.slice cC aU.length bU)) (fun _ hk => hk.2) (.slice bX bE.length bV)) (fun _ h_ => h_.1)))); (case cM => exact (Kd.R_reads' bJ.out).2.1); rintro e w22 ⟨dO, tK, rfl, cW, eI, hb⟩; refine ⟨_, rfl, ?_⟩; replace eO := aM (Kd.V_mono (Kd.V_told (Kd.V_told (Kd.V_old (by refine pV ?_; exact (Kd.V_mono (Kd.V_far (p := ⟨bA, 1, none⟩) (Kd.V_far (p := ⟨bA, 0, none⟩) (Kd.V_mono eO.out (fun k_ hk => (⟨hk, hk.2⟩ : _ ∧ k_ ≠ bA))) (fun _ hk => hk.2) (.slice cC aU.length bU)) (fun _ hk => hk.2) (.slice bX bE.length bV)) (fun _ h_ => h_.1))) hb) (Kd.R_base cW)) (Kd.R_base eI)) (fun _ h_ => h_.1)); have cE := aM (Kd.R_lower (Kd.R_new' (Kd.R_newM (M := fun k_ => (w.heap.size ≤ k_)) cW (below_size (pE HB)) (fun k_ h_ => h_)) (Kd.R_lt (by refine pR ?_; exact (Kd.R_mono (Kd.R_far (p := ⟨bA, 1, none⟩) (Kd.R_far (p := ⟨bA, 0, none⟩) (Kd.R_types bK.out aH.out (by decide)) (fun _ hk => hk.2) (.slice cC aU.length bU)) (fun _ hk => hk.2) (.slice bX bE.length bV)) (fun _ h_ => h_.1))))) (below_size (pE HB))); replace bK := aM (Kd.R_elder' (by refine pR ?_; exact (Kd.R_mono (Kd.R_far (p := ⟨bA, 1, none⟩) (Kd.R_far (p := ⟨bA, 0, none⟩) (Kd.R_types bK.out aH.out (by decide)) (fun _ hk => hk.2) (.slice cC aU.length bU)) (fun _ hk => hk.2) (.slice bX bE.length bV)) (fun _ h_ => h_.1))) (Kd.R_base cW) hb); have cD := aM (Kd.R_lower (Kd.R_new' (Kd.R_newM (M := fun k_ => (w.heap.size ≤ k_)) eI (below_size (pE HB)) (fun k_ h_ => h_)) (Kd.R_lt (by refine pR ?_; exact (Kd.R_mono (Kd.R_far (p := ⟨bA, 1, none⟩) (Kd.R_far (p := ⟨bA, 0, none⟩) (Kd.R_types bJ.out aH.out (by decide)) (fun _ hk => hk.2) (.slice cC aU.length bU)) (fun _ hk => hk.2) (.slice bX bE.length bV)) (fun _ h_ => h_.1))))) (below_size (pE HB))); replace bJ := aM (Kd.R_elder' (by refine pR ?_; exact (Kd.R_mono (Kd.R_far (p := ⟨bA, 1, none⟩) (Kd.R_far (p := ⟨bA, 0, none⟩) (Kd.R_types bJ.out aH.out (by decide)) (fun _ hk => hk.2) (.slice cC aU.length bU)) (fun _ hk => hk.2) (.slice bX bE.length bV)) (fun _ h_ => h_.1))) (Kd.R_base eI) hb); replace aJ := bf aJ hb; replace aH := aM (blk_below (g := bA) (o := .cells #[.slice cC aU.length bU, .slice bX bE.length bV] 25 (0, 0)) (by refine pB ?_; refine blk_put (cs := #[.slice cC aU.length bU, .slice none 0 0]) ?_ 1 _ rfl; refine pB ?_; refine blk_put (cs := #[.slice none 0 0, .slice none 0 0]) ?_ 0 _ rfl; exact pB aH.out) hb); replace HB := bs HB hb; clear hb cW eI; obtain ⟨nZ, oA, pJ⟩ := Kd.R_slice cE.out; subst pJ; obtain ⟨oB, oC, pK⟩ := Kd.R_slice cD.out; subst pK) | ((with_reducible refine gc 20 rfl ?_); refine gL 33 Tryz.func20 #[.agg #[.slice nZ lQ.length oA, .slice oB lR.length oC]] ?_; (with_reducible refine (aC2.calls k _ _ lQ _ _ lR bL jM _ ?cF ?cG ?cL ?cM A6.out).mono ?_); (case cF => exact pC (Kd.R_reads' cE.out).2.2); (case cG => exact (Kd.R_reads' cE.out).2.1); (case cL => exact pC (Kd.R_reads' cD.out).2.2); (case cM => exact (Kd.R_reads' cD.out).2.1); rintro e w25 ⟨jZ, rfl, cW, hb⟩; refine ⟨_, rfl, ?_⟩; replace eO := aM (Kd.V_elder' (pV eO.out) (Kd.R_base cW) hb); replace bK := rb bK hb; replace cE := rb cE hb; have cA := aM (Kd.R_lower (Kd.R_new' (Kd.R_new' (Kd.R_newM (M := fun k_ => (w.heap.size ≤ k_)) cW (below_size (pE HB)) (fun k_ h_ => h_)) (Kd.R_lt (pR bJ.out))) (Kd.R_lt (pR cD.out))) (below_size (pE HB))); replace bJ := re bJ cW hb; replace cD := re cD cW hb; replace aJ := bb aJ hb; replace aH := bb aH hb; replace HB := bs HB hb; clear hb cW; obtain ⟨fV, fW, fX, fY⟩ := cf2 aH) | ((with_reducible refine gc 49 rfl ?_); refine gL 38 Tryz.func49 #[.agg #[.slice cC aU.length bU, .slice bX bE.length bV]] ?_; (with_reducible refine (aB4.calls _ _ aU _ _ bE lS lT _ ?cF ?cG ?cL ?cM A7.out).mono ?_); (case cF => exact pC (Kd.R_reads' bK.out).2.2); (case cG => exact (Kd.R_reads' bK.out).2.1); (case cL => exact pC (Kd.R_reads' bJ.out).2.2); (case cM => exact (Kd.R_reads' bJ.out).2.1); rintro e w27 ⟨tL, tM, rfl, cW, eI, hb⟩; refine ⟨_, rfl, ?_⟩; replace eO := aM (Kd.V_mono (Kd.V_told (Kd.V_told (Kd.V_old (pV eO.out) hb) (Kd.R_base cW)) (Kd.R_base eI)) (fun _ h_ => h_.1)); have cN := aM (Kd.R_lower (Kd.R_new' (Kd.R_new' (Kd.R_newM (M := fun k_ => (w.heap.size ≤ k_)) cW (below_size (pE HB)) (fun k_ h_ => h_)) (Kd.R_lt (pR bK.out))) (Kd.R_lt (pR cE.out))) (below_size (pE HB))); replace bK := re bK cW hb; replace cE := re cE cW hb; have cO := aM (Kd.R_lower (Kd.R_new' (Kd.R_new' (Kd.R_new' (Kd.R_newM (M := fun k_ => (w.heap.size ≤ k_)) eI (below_size (pE HB)) (fun k_ h_ => h_)) (Kd.R_lt (pR bJ.out))) (Kd.R_lt (pR cD.out))) (Kd.R_lt (pR cA.out))) (below_size (pE HB))); replace bJ := re bJ eI hb; replace cD := re cD eI hb; replace cA := re cA eI hb; replace aJ := bb aJ hb; replace aH := bb aH hb; replace HB := bs HB hb; clear hb cW eI; obtain ⟨oD, oE, pL⟩ := Kd.R_slice cN.out; subst pL; obtain ⟨oF, oG, pM⟩ := Kd.R_slice cO.out; subst pM) | ((with_reducible refine gc 25 rfl ?_); refine gL 40 Tryz.func25 #[.agg #[.slice oD lS.length oE, .slice oF lT.length oG], .int .i64 (wrap64 (1 + (Int.tmod (wrap64 (a1)) 5)))] ?_; (with_reducible refine (aC0.calls k _ _ lS _ _ lT (wrap64 (1 + (Int.tmod (wrap64 (a1)) 5))) aG jN _ ?cF ?cG ?cL ?cM A8.out).mono ?_); (case cF => exact pC (Kd.R_reads' cN.out).2.2); (case cG => exact (Kd.R_reads' cN.out).2.1); (case cL => exact pC (Kd.R_reads' cO.out).2.2); (case cM => exact (Kd.R_reads' cO.out).2.1); rintro e w30 ⟨kA, rfl, cW, hb⟩; refine ⟨_, rfl, ?_⟩; replace eO := aM (Kd.V_elder' (pV eO.out) (Kd.R_base cW) hb); replace bK := rb bK hb; replace bJ := rb bJ hb; replace cE := rb cE hb; replace cD := rb cD hb; replace cA := rb cA hb; replace cN := rb cN hb; replace cO := rb cO hb; have cV := aM (Kd.R_lower (Kd.R_newM (M := fun k_ => (w.heap.size ≤ k_)) cW (below_size (pE HB)) (fun k_ h_ => h_)) (below_size (pE HB))); replace aJ := bb aJ hb; replace aH := bb aH hb; replace HB := bs HB hb; clear hb cW; obtain ⟨fZ, gA, gB, gC⟩ := cf2 aH) | ((with_reducible refine gc 49 rfl ?_); refine gL 45 Tryz.func49 #[.agg #[.slice cC aU.length bU, .slice bX bE.length bV]] ?_; (with_reducible refine (aB4.calls _ _ aU _ _ bE lU lV _ ?cF ?cG ?cL ?cM A9.out).mono ?_); (case cF => exact pC (Kd.R_reads' bK.out).2.2); (case cG => exact (Kd.R_reads' bK.out).2.1); (case cL => exact pC (Kd.R_reads' bJ.out).2.2); (case cM => exact (Kd.R_reads' bJ.out).2.1); rintro e w32 ⟨tN, tO, rfl, cW, eI, hb⟩; refine ⟨_, rfl, ?_⟩; replace eO := aM (Kd.V_mono (Kd.V_told (Kd.V_told (Kd.V_old (pV eO.out) hb) (Kd.R_base cW)) (Kd.R_base eI)) (fun _ h_ => h_.1)); replace cV := rb cV hb; have dE := aM (Kd.R_lower (Kd.R_new' (Kd.R_new' (Kd.R_new' (Kd.R_newM (M := fun k_ => (w.heap.size ≤ k_)) cW (below_size (pE HB)) (fun k_ h_ => h_)) (Kd.R_lt (pR bK.out))) (Kd.R_lt (pR cE.out))) (Kd.R_lt (pR cN.out))) (below_size (pE HB))); replace bK := re bK cW hb; replace cE := re cE cW hb; replace cN := re cN cW hb; have dF := aM (Kd.R_lower (Kd.R_new' (Kd.R_new' (Kd.R_new' (Kd.R_new' (Kd.R_newM (M := fun k_ => (w.heap.size ≤ k_)) eI (below_size (pE HB)) (fun k_ h_ => h_)) (Kd.R_lt (pR bJ.out))) (Kd.R_lt (pR cD.out))) (Kd.R_lt (pR cA.out))) (Kd.R_lt (pR cO.out))) (below_size (pE HB))); replace bJ := re bJ eI hb; replace cD := re cD eI hb; replace cA := re cA eI hb; replace cO := re cO eI hb; replace aJ := bb aJ hb; replace aH := bb aH hb; replace HB := bs HB hb; clear hb cW eI; obtain ⟨oH, oI, pO⟩ := Kd.R_slice dE.out; subst pO; obtain ⟨oJ, oK, pP⟩ := Kd.R_slice dF.out; subst pP) | ((with_reducible refine gc 27 rfl ?_); refine gL 47 Tryz.func27 #[.agg #[.slice oH lU.length oI, .slice oJ lV.length oK], .int .i64 (wrap64 (1 + (Int.tmod (wrap64 (a1)) 5)))] ?_; (with_reducible refine (aC4.calls k _ _ lU _ _ lV (wrap64 (1 + (Int.tmod (wrap64 (a1)) 5))) bQ bS jO _ ?cF ?cG ?cL ?cM tF.out).mono ?_); (case cF => exact pC (Kd.R_reads' dE.out).2.2); (case cG => exact (Kd.R_reads' dE.out).2.1); (case cL => exact pC (Kd.R_reads' dF.out).2.2); (case cM => exact (Kd.R_reads' dF.out).2.1); rintro e w35 ⟨rfl, hb⟩; refine ⟨_, rfl, ?_⟩; replace eO := vb eO hb; replace bK := rb bK hb; replace bJ := rb bJ hb; replace cE := rb cE hb; replace cD := rb cD hb; replace cA := rb cA hb; replace cN := rb cN hb; replace cO := rb cO hb; replace cV := rb cV hb; replace dE := rb dE hb; replace dF := rb dF hb; replace aJ := bb aJ hb; replace aH := bb aH hb; replace HB := bs HB hb; clear hb) | ((with_reducible refine gate_dst (N := 13) rfl ?_); (try (refine gate_guard (by rfl) ?_; dsimp only)); refine bx 13 #[.int .i64 0, .int .i64 0] 42 ?_; intro aN hg w36 hbox hb; replace eO := ve eO hg hb; replace bK := rb bK hb; replace bJ := rb bJ hb; replace cE := rb cE hb; replace cD := rb cD hb; replace cA := rb cA hb; replace cN := rb cN hb; replace cO := rb cO hb; replace cV := aM (Kd.R_below (Kd.R_elderB (pR cV.out) aN (Nat.le_of_eq hg.symm)) hb); replace dE := rb dE hb; replace dF := rb dF hb; have aI := hbox; have rV := gs HB hg; have rW := gs HB hg; replace HB := bs HB hb; have dQ := nl aJ hg; have dR := nr aJ hg; replace aJ := bb aJ hb; have cS := nl aH hg; have cT := nr aH hg; replace aH := bb aH hb; clear hb hbox hg; have rX := dR.out; have rY := dQ.out; have rZ := cT.out; have sA := cS.out; obtain ⟨gD, gE, gF, gG⟩ := cf2 aI; obtain ⟨gH, gI, gJ, gK⟩ := cf2 aH) | ((with_reducible refine gc 49 rfl ?_); refine gL 52 Tryz.func49 #[.agg #[.slice cC aU.length bU, .slice bX bE.length bV]] ?_; (with_reducible refine (aB4.calls _ _ aU _ _ bE mM mN _ ?cF ?cG ?cL ?cM tG.out).mono ?_); (case cF => refine (Kd.R_reads' (e := 67) (base := w.heap.size) (ok := fun k_ => (((((w.heap.size ≤ k_) ∧ True) ∧ some k_ ≠ (.slice nZ lQ.length oA : Value).ownBlock) ∧ some k_ ≠ (.slice oD lS.length oE : Value).ownBlock) ∧ some k_ ≠ (.slice oH lU.length oI : Value).ownBlock)) (n := aU.length) (c := bU) ?_).2.2; exact (by refine pR ?_; exact (Kd.R_mono (Kd.R_far (p := ⟨aN, 1, none⟩) (Kd.R_far (p := ⟨aN, 0, none⟩) (Kd.R_types bK.out aI.out (by decide)) (fun _ hk => hk.2) (.int .i64 bQ)) (fun _ hk => hk.2) (.int .i64 bS)) (fun _ h_ => h_.1)))); (case cG => exact (Kd.R_reads' bK.out).2.1); (case cL => refine (Kd.R_reads' (e := 3) (base := w.heap.size) (ok := fun k_ => ((((((w.heap.size ≤ k_) ∧ True) ∧ some k_ ≠ (.slice oB lR.length oC : Value).ownBlock) ∧ some k_ ≠ (jZ : Value).ownBlock) ∧ some k_ ≠ (.slice oF lT.length oG : Value).ownBlock) ∧ some k_ ≠ (.slice oJ lV.length oK : Value).ownBlock)) (n := bE.length) (c := bV) ?_).2.2; exact (by refine pR ?_; exact (Kd.R_mono (Kd.R_far (p := ⟨aN, 1, none⟩) (Kd.R_far (p := ⟨aN, 0, none⟩) (Kd.R_types bJ.out aI.out (by decide)) (fun _ hk => hk.2) (.int .i64 bQ)) (fun _ hk => hk.2) (.int .i64 bS)) (fun _ h_ => h_.1)))); (case cM => exact (Kd.R_reads' bJ.out).2.1); rintro e w41 ⟨tP, tQ, rfl, cW, eI, hb⟩; refine ⟨_, rfl, ?_⟩; replace eO := aM (Kd.V_mono (Kd.V_told (Kd.V_told (Kd.V_old (by refine pV ?_; exact (Kd.V_mono (Kd.V_far (p := ⟨aN, 1, none⟩) (Kd.V_far (p := ⟨aN, 0, none⟩) (Kd.V_mono eO.out (fun k_ hk => (⟨hk, hk.2⟩ : _ ∧ k_ ≠ aN))) (fun _ hk => hk.2) (.int .i64 bQ)) (fun _ hk => hk.2) (.int .i64 bS)) (fun _ h_ => h_.1))) hb) (Kd.R_base cW)) (Kd.R_base eI)) (fun _ h_ => h_.1)); replace cV := aM (Kd.R_below (by refine pR ?_; exact (Kd.R_mono (Kd.R_far (p := ⟨aN, 1, none⟩) (Kd.R_far (p := ⟨aN, 0, none⟩) (Kd.R_mono cV.out (fun k_ hk => (⟨hk, hk.2⟩ : _ ∧ k_ ≠ aN))) (fun _ hk => hk.2) (.int .i64 bQ)) (fun _ hk => hk.2) (.int .i64 bS)) (fun _ h_ => h_.1))) hb); have eP := aM (Kd.R_lower (Kd.R_new' (Kd.R_new' (Kd.R_new' (Kd.R_new' (Kd.R_newM (M := fun k_ => (w.heap.size ≤ k_)) cW (below_size (pE HB)) (fun k_ h_ => h_)) (Kd.R_lt (by refine pR ?_; exact (Kd.R_mono (Kd.R_far (p := ⟨aN, 1, none⟩) (Kd.R_far (p := ⟨aN, 0, none⟩) (Kd.R_types bK.out aI.out (by decide)) (fun _ hk => hk.2) (.int .i64 bQ)) (fun _ hk => hk.2) (.int .i64 bS)) (fun _ h_ => h_.1))))) (Kd.R_lt (by refine pR ?_; exact (Kd.R_mono (Kd.R_far (p := ⟨aN, 1, none⟩) (Kd.R_far (p := ⟨aN, 0, none⟩) (Kd.R_types cE.out aI.out (by decide)) (fun _ hk => hk.2) (.int .i64 bQ)) (fun _ hk => hk.2) (.int .i64 bS)) (fun _ h_ => h_.1))))) (Kd.R_lt (by refine pR ?_; exact (Kd.R_mono (Kd.R_far (p := ⟨aN, 1, none⟩) (Kd.R_far (p := ⟨aN, 0, none⟩) (Kd.R_types cN.out aI.out (by decide)) (fun _ hk => hk.2) (.int .i64 bQ)) (fun _ hk => hk.2) (.int .i64 bS)) (fun _ h_ => h_.1))))) (Kd.R_lt (by refine pR ?_; exact (Kd.R_mono (Kd.R_far (p := ⟨aN, 1, none⟩) (Kd.R_far (p := ⟨aN, 0, none⟩) (Kd.R_types dE.out aI.out (by decide)) (fun _ hk => hk.2) (.int .i64 bQ)) (fun _ hk => hk.2) (.int .i64 bS)) (fun _ h_ => h_.1))))) (below_size (pE HB))); replace bK := aM (Kd.R_elder' (by refine pR ?_; exact (Kd.R_mono (Kd.R_far (p := ⟨aN, 1, none⟩) (Kd.R_far (p := ⟨aN, 0, none⟩) (Kd.R_types bK.out aI.out (by decide)) (fun _ hk => hk.2) (.int .i64 bQ)) (fun _ hk => hk.2) (.int .i64 bS)) (fun _ h_ => h_.1))) (Kd.R_base cW) hb); replace cE := aM (Kd.R_elder' (by refine pR ?_; exact (Kd.R_mono (Kd.R_far (p := ⟨aN, 1, none⟩) (Kd.R_far (p := ⟨aN, 0, none⟩) (Kd.R_types cE.out aI.out (by decide)) (fun _ hk => hk.2) (.int .i64 bQ)) (fun _ hk => hk.2) (.int .i64 bS)) (fun _ h_ => h_.1))) (Kd.R_base cW) hb); replace cN := aM (Kd.R_elder' (by refine pR ?_; exact (Kd.R_mono (Kd.R_far (p := ⟨aN, 1, none⟩) (Kd.R_far (p := ⟨aN, 0, none⟩) (Kd.R_types cN.out aI.out (by decide)) (fun _ hk => hk.2) (.int .i64 bQ)) (fun _ hk => hk.2) (.int .i64 bS)) (fun _ h_ => h_.1))) (Kd.R_base cW) hb); replace dE := aM (Kd.R_elder' (by refine pR ?_; exact (Kd.R_mono (Kd.R_far (p := ⟨aN, 1, none⟩) (Kd.R_far (p := ⟨aN, 0, none⟩) (Kd.R_types dE.out aI.out (by decide)) (fun _ hk => hk.2) (.int .i64 bQ)) (fun _ hk => hk.2) (.int .i64 bS)) (fun _ h_ => h_.1))) (Kd.R_base cW) hb); have eQ := aM (Kd.R_lower (Kd.R_new' (Kd.R_new' (Kd.R_new' (Kd.R_new' (Kd.R_new' (Kd.R_newM (M := fun k_ => (w.heap.size ≤ k_)) eI (below_size (pE HB)) (fun k_ h_ => h_)) (Kd.R_lt (by refine pR ?_; exact (Kd.R_mono (Kd.R_far (p := ⟨aN, 1, none⟩) (Kd.R_far (p := ⟨aN, 0, none⟩) (Kd.R_types bJ.out aI.out (by decide)) (fun _ hk => hk.2) (.int .i64 bQ)) (fun _ hk => hk.2) (.int .i64 bS)) (fun _ h_ => h_.1))))) (Kd.R_lt (by refine pR ?_; exact (Kd.R_mono (Kd.R_far (p := ⟨aN, 1, none⟩) (Kd.R_far (p := ⟨aN, 0, none⟩) (Kd.R_types cD.out aI.out (by decide)) (fun _ hk => hk.2) (.int .i64 bQ)) (fun _ hk => hk.2) (.int .i64 bS)) (fun _ h_ => h_.1))))) (Kd.R_lt (by refine pR ?_; exact (Kd.R_mono (Kd.R_far (p := ⟨aN, 1, none⟩) (Kd.R_far (p := ⟨aN, 0, none⟩) (Kd.R_types cA.out aI.out (by decide)) (fun _ hk => hk.2) (.int .i64 bQ)) (fun _ hk => hk.2) (.int .i64 bS)) (fun _ h_ => h_.1))))) (Kd.R_lt (by refine pR ?_; exact (Kd.R_mono (Kd.R_far (p := ⟨aN, 1, none⟩) (Kd.R_far (p := ⟨aN, 0, none⟩) (Kd.R_types cO.out aI.out (by decide)) (fun _ hk => hk.2) (.int .i64 bQ)) (fun _ hk => hk.2) (.int .i64 bS)) (fun _ h_ => h_.1))))) (Kd.R_lt (by refine pR ?_; exact (Kd.R_mono (Kd.R_far (p := ⟨aN, 1, none⟩) (Kd.R_far (p := ⟨aN, 0, none⟩) (Kd.R_types dF.out aI.out (by decide)) (fun _ hk => hk.2) (.int .i64 bQ)) (fun _ hk => hk.2) (.int .i64 bS)) (fun _ h_ => h_.1))))) (below_size (pE HB))); replace bJ := aM (Kd.R_elder' (by refine pR ?_; exact (Kd.R_mono (Kd.R_far (p := ⟨aN, 1, none⟩) (Kd.R_far (p := ⟨aN, 0, none⟩) (Kd.R_types bJ.out aI.out (by decide)) (fun _ hk => hk.2) (.int .i64 bQ)) (fun _ hk => hk.2) (.int .i64 bS)) (fun _ h_ => h_.1))) (Kd.R_base eI) hb); replace cD := aM (Kd.R_elder' (by refine pR ?_; exact (Kd.R_mono (Kd.R_far (p := ⟨aN, 1, none⟩) (Kd.R_far (p := ⟨aN, 0, none⟩) (Kd.R_types cD.out aI.out (by decide)) (fun _ hk => hk.2) (.int .i64 bQ)) (fun _ hk => hk.2) (.int .i64 bS)) (fun _ h_ => h_.1))) (Kd.R_base eI) hb); replace cA := aM (Kd.R_elder' (by refine pR ?_; exact (Kd.R_mono (Kd.R_far (p := ⟨aN, 1, none⟩) (Kd.R_far (p := ⟨aN, 0, none⟩) (Kd.R_types cA.out aI.out (by decide)) (fun _ hk => hk.2) (.int .i64 bQ)) (fun _ hk => hk.2) (.int .i64 bS)) (fun _ h_ => h_.1))) (Kd.R_base eI) hb); replace cO := aM (Kd.R_elder' (by refine pR ?_; exact (Kd.R_mono (Kd.R_far (p := ⟨aN, 1, none⟩) (Kd.R_far (p := ⟨aN, 0, none⟩) (Kd.R_types cO.out aI.out (by decide)) (fun _ hk => hk.2) (.int .i64 bQ)) (fun _ hk => hk.2) (.int .i64 bS)) (fun _ h_ => h_.1))) (Kd.R_base eI) hb); replace dF := aM (Kd.R_elder' (by refine pR ?_; exact (Kd.R_mono (Kd.R_far (p := ⟨aN, 1, none⟩) (Kd.R_far (p := ⟨aN, 0, none⟩) (Kd.R_types dF.out aI.out (by decide)) (fun _ hk => hk.2) (.int .i64 bQ)) (fun _ hk => hk.2) (.int .i64 bS)) (fun _ h_ => h_.1))) (Kd.R_base eI) hb); replace aJ := bf aJ hb; replace aH := bf aH hb; replace aI := aM (blk_below (g := aN) (o := .cells #[.int .i64 bQ, .int .i64 bS] 42 (0, 0)) (by refine pB ?_; refine blk_put (cs := #[.int .i64 bQ, .int .i64 0]) ?_ 1 _ rfl; refine pB ?_; refine blk_put (cs := #[.int .i64 0, .int .i64 0]) ?_ 0 _ rfl; exact pB aI.out) hb); replace HB := bs HB hb; clear hb cW eI; obtain ⟨pQ, pS, pT⟩ := Kd.R_slice eP.out; subst pT; obtain ⟨pU, pW, pX⟩ := Kd.R_slice eQ.out; subst pX) | ((with_reducible refine gc 26 rfl ?_); refine gL 54 Tryz.func26 #[.agg #[.slice pQ mM.length pS, .slice pU mN.length pW], .int .i64 (wrap64 (1 + (Int.tmod (wrap64 (a1)) 5)))] ?_; (with_reducible refine (aC1.calls k _ _ mM _ _ mN (wrap64 (1 + (Int.tmod (wrap64 (a1)) 5))) dI dV eM _ ?cF ?cG ?cL ?cM tH.out).mono ?_); (case cF => exact pC (Kd.R_reads' eP.out).2.2); (case cG => exact (Kd.R_reads' eP.out).2.1); (case cL => exact pC (Kd.R_reads' eQ.out).2.2); (case cM => exact (Kd.R_reads' eQ.out).2.1); rintro e w44 ⟨rfl, hb⟩; refine ⟨_, rfl, ?_⟩; replace eO := vb eO hb; replace bK := rb bK hb; replace bJ := rb bJ hb; replace cE := rb cE hb; replace cD := rb cD hb; replace cA := rb cA hb; replace cN := rb cN hb; replace cO := rb cO hb; replace cV := rb cV hb; replace dE := rb dE hb; replace dF := rb dF hb; replace eP := rb eP hb; replace eQ := rb eQ hb; replace aJ := bb aJ hb; replace aH := bb aH hb; replace aI := bb aI hb; replace HB := bs HB hb; clear hb))
 (try simp only [Act.put, List.setIfInBounds_toArray, List.set_cons_zero, List.set_cons_succ])
 go_cut [98] (fun tR wc => ∃ (kq : Nat) (gM : Bool), tR = .bool gM ∧ Aside0 (aA1.j0 kq l2 (wrap64 (1 + (Int.tmod (wrap64 (a1)) 5))) bL aG dI dV gM aU bE bQ bS = some r) ∧ Aside0 (kq ≤ k) ∧ Aside0 (Kd.V (Kd.int .u8) 5 wc w.heap.size (fun k_ => (P2_ k_ ∨ w.heap.size ≤ k_) ∧ k_ ≠ bT ∧ k_ ≠ bA ∧ k_ ≠ aN) (.slice A2 l2.length c2) l2) ∧ Aside0 (Kd.R (Kd.int .i64) 3 wc w.heap.size (fun k_ => (w.heap.size ≤ k_)) jZ bL) ∧ Aside0 (Kd.R k42 42 wc w.heap.size (fun k_ => (w.heap.size ≤ k_) ∧ k_ ≠ aN) kA aG) ∧ Aside0 (Kd.R k67 67 wc w.heap.size (fun k_ => (w.heap.size ≤ k_)) (.slice cC aU.length bU) aU) ∧ Aside0 (Kd.R (Kd.int .i64) 3 wc w.heap.size (fun k_ => (w.heap.size ≤ k_)) (.slice bX bE.length bV) bE) ∧ Aside0 (wc.heap[bT]? = some (.cells #[(.slice dZ dG.length eA), .int .u8 dP, (.slice eB dH.length eC)] 76 (0, 0))) ∧ Aside0 (wc.heap[bA]? = some (.cells #[(.slice cC aU.length bU), (.slice bX bE.length bV)] 25 (0, 0))) ∧ Aside0 (wc.heap[aN]? = some (.cells #[.int .i64 bQ, .int .i64 bS] 42 (0, 0))) ∧ Aside0 (Below w.heap.size w wc))
 case first =>
  have H := mO.out
  clear mO
  by_cases c45 : jM = 0
  rotate_left
  ·rw [if_neg c45] at H
   have fC : (jM == 0) = false := beq_eq_false_iff_ne.mpr c45
   have iO : (jM != 0) = true := bne_iff_ne.mpr c45
   (first | rw [fC] | (simp only [i64_w, i32_w]; rw [fC]) | skip)
   exact (aA1.dead_j0 _ _ _ _ _ _ _ _ _ _ _ _ H HRT.out).elim
  rw [if_pos c45] at H
  have fC : (jM == 0) = true := beq_iff_eq.mpr c45
  have iO : (jM != 0) = false := bne_eq_false_iff_eq.mpr c45
  clear c45
  (first | rw [fC] | (simp only [i64_w, i32_w]; rw [fC]) | skip)
  by_cases c46 : jN = 0
  rotate_left
  ·rw [if_neg c46] at H
   have iP : (jN == 0) = false := beq_eq_false_iff_ne.mpr c46
   have iQ : (jN != 0) = true := bne_iff_ne.mpr c46
   exact (aA1.dead_j0 _ _ _ _ _ _ _ _ _ _ _ _ H HRT.out).elim
  rw [if_pos c46] at H
  have iP : (jN == 0) = true := beq_iff_eq.mpr c46
  have iQ : (jN != 0) = false := bne_eq_false_iff_eq.mpr c46
  clear c46
  by_cases c47 : jO = 0
  rotate_left
  ·rw [if_neg c47] at H
   have iR : (jO == 0) = false := beq_eq_false_iff_ne.mpr c47
   have iS : (jO != 0) = true := bne_iff_ne.mpr c47
   exact (aA1.dead_j0 _ _ _ _ _ _ _ _ _ _ _ _ H HRT.out).elim
  rw [if_pos c47] at H
  have iR : (jO == 0) = true := beq_iff_eq.mpr c47
  have iS : (jO != 0) = false := bne_eq_false_iff_eq.mpr c47
  clear c47
  obtain ⟨jY, sB, H⟩ := bi H
  by_cases c49 : jY = true
  rotate_left
  ·replace c49 := Bool.eq_false_iff.mpr c49
   subst c49
   rw [if_neg (show ¬ (false = true) by decide)] at H
   exact (aA1.dead_j0 _ _ _ _ _ _ _ _ _ _ _ _ H HRT.out).elim
  subst c49
  rw [if_pos rfl] at H
  by_cases c50 : (aG.length : Int) = (bL.length : Int)
  rotate_left
  ·rw [if_neg c50] at H
   have iT : ((aG.length : Int) == (bL.length : Int)) = false := beq_eq_false_iff_ne.mpr c50
   have iU : ((aG.length : Int) != (bL.length : Int)) = true := bne_iff_ne.mpr c50
   have iV : (aG.length == bL.length) = false := by first | simpa using c50 | (simp at c50 ⊢; omega)
   exact (aA1.dead_j0 _ _ _ _ _ _ _ _ _ _ _ _ H HRT.out).elim
  rw [if_pos c50] at H
  have iT : ((aG.length : Int) == (bL.length : Int)) = true := beq_iff_eq.mpr c50
  have iU : ((aG.length : Int) != (bL.length : Int)) = false := bne_eq_false_iff_eq.mpr c50
  have iV : (aG.length == bL.length) = true := by first | simpa using c50 | (simp at c50 ⊢; omega)
  clear c50
  by_cases c51 : ((eM == 7) != ((bL.length : Int) == 0)) = true
  ·rw [if_pos c51] at H
   have iW : ((eM == 7) != ((bL.length : Int) == 0)) = true := c51
   (try (have iX : decide ((eM == 7) = ((bL.length : Int) == 0)) = false := by simpa using c51))
   (try (have iY : ((eM == 7) == ((bL.length : Int) == 0)) = false := by simpa using c51))
   (try (have sC : ¬ ((eM == 7) = ((bL.length : Int) == 0)) := by simpa using c51))
   clear c51
   exact (aA1.dead_j0 _ _ _ _ _ _ _ _ _ _ _ _ H HRT.out).elim
  rw [if_neg c51] at H
  have iW : ((eM == 7) != ((bL.length : Int) == 0)) = false := by simpa using c51
  (try (have iX : decide ((eM == 7) = ((bL.length : Int) == 0)) = true := by simpa using c51))
  (try (have iY : ((eM == 7) == ((bL.length : Int) == 0)) = true := by simpa using c51))
  clear c51
  by_cases c52 : eM = 0
  rotate_left
  ·rw [if_neg c52] at H
   have iZ : (eM == 0) = false := beq_eq_false_iff_ne.mpr c52
   have jA : (eM != 0) = true := bne_iff_ne.mpr c52
   have H' := aM H
   clear H
   have sD := dY.out
   have sE := dX.out
   have sF := cS.out
   have sG := cT.out
   obtain ⟨gN, gP, gQ, gR⟩ := cf2 aH
   obtain ⟨tS, tT, pY⟩ := Kd.R_slice cA.out
   subst pY
   go_wp2_with (first | (go_at_call 50; (with_reducible refine (aA7.calls k _ _ bL (aU.length : Int) true _ ?cF ?cG sB.out).mono ?_); (case cF => exact pC (Kd.R_reads' cA.out).2.2); (case cG => exact (Kd.R_reads' cA.out).2.1); rintro e w63 ⟨rfl, hb⟩; replace eO := vb eO hb; replace bK := rb bK hb; replace bJ := rb bJ hb; replace cE := rb cE hb; replace cD := rb cD hb; replace cA := rb cA hb; replace cN := rb cN hb; replace cO := rb cO hb; replace cV := rb cV hb; replace dE := rb dE hb; replace dF := rb dF hb; replace eP := rb eP hb; replace eQ := rb eQ hb; replace aJ := bb aJ hb; replace aH := bb aH hb; replace aI := bb aI hb; replace HB := bs HB hb; (try clear hb); (try clear hb2); (try clear hk); (try clear hi); obtain ⟨tU, tV, pZ⟩ := Kd.R_slice cV.out; subst pZ))
   go_meet
   case rel => exact ⟨_, ((eM != 7)), (by first | rfl | (simp; done) | (simp [*]; done)), H', ⟨by first | omega | exact Nat.le_refl _⟩, ⟨by (with_reducible repeat (first | apply Kd.V_alloc | apply Kd.V_drewN | apply Kd.V_drew)); exact Kd.V_mono eO.out (fun _ hk => by first | exact hk.1 | simp [hk])⟩, ⟨by (with_reducible repeat (first | apply Kd.R_alloc | apply Kd.R_drewN | apply Kd.R_drew)); exact Kd.R_mono cA.out (fun _ hk => by first | exact hk.1.1.1.1.1.1 | exact hk.1 | exact hk)⟩, ⟨by (with_reducible repeat (first | apply Kd.R_alloc | apply Kd.R_drewN | apply Kd.R_drew)); exact Kd.R_mono cV.out (fun _ hk => by first | exact hk.1 | simp [hk])⟩, ⟨by (with_reducible repeat (first | apply Kd.R_alloc | apply Kd.R_drewN | apply Kd.R_drew)); exact Kd.R_mono bK.out (fun _ hk => by first | exact hk.1.1.1.1.1 | exact hk.1 | exact hk)⟩, ⟨by (with_reducible repeat (first | apply Kd.R_alloc | apply Kd.R_drewN | apply Kd.R_drew)); exact Kd.R_mono bJ.out (fun _ hk => by first | exact hk.1.1.1.1.1.1 | exact hk.1 | exact hk)⟩, ⟨pB aJ.out⟩, ⟨pB aH.out⟩, ⟨pB aI.out⟩, ⟨pE HB⟩⟩
  rw [if_pos c52] at H
  have iZ : (eM == 0) = true := beq_iff_eq.mpr c52
  have jA : (eM != 0) = false := bne_eq_false_iff_eq.mpr c52
  clear c52
  have H' := aM H
  clear H
  have sH := dY.out
  have sI := dX.out
  have sJ := cS.out
  have sK := cT.out
  obtain ⟨gS, gT, gU, gV⟩ := cf2 aH
  obtain ⟨tW, tX, qA⟩ := Kd.R_slice cA.out
  subst qA
  go_wp2_with (first | (go_at_call 50; (with_reducible refine (aA7.calls k _ _ bL (aU.length : Int) true _ ?cF ?cG sB.out).mono ?_); (case cF => exact pC (Kd.R_reads' cA.out).2.2); (case cG => exact (Kd.R_reads' cA.out).2.1); rintro e w57 ⟨rfl, hb⟩; replace eO := vb eO hb; replace bK := rb bK hb; replace bJ := rb bJ hb; replace cE := rb cE hb; replace cD := rb cD hb; replace cA := rb cA hb; replace cN := rb cN hb; replace cO := rb cO hb; replace cV := rb cV hb; replace dE := rb dE hb; replace dF := rb dF hb; replace eP := rb eP hb; replace eQ := rb eQ hb; replace aJ := bb aJ hb; replace aH := bb aH hb; replace aI := bb aI hb; replace HB := bs HB hb; (try clear hb); (try clear hb2); (try clear hk); (try clear hi); obtain ⟨tY, tZ, qB⟩ := Kd.R_slice cV.out; subst qB))
  go_meet
  case rel => exact ⟨_, (false), (by first | rfl | (simp; done) | (simp [*]; done)), H', ⟨by first | omega | exact Nat.le_refl _⟩, ⟨by (with_reducible repeat (first | apply Kd.V_alloc | apply Kd.V_drewN | apply Kd.V_drew)); exact Kd.V_mono eO.out (fun _ hk => by first | exact hk.1 | simp [hk])⟩, ⟨by (with_reducible repeat (first | apply Kd.R_alloc | apply Kd.R_drewN | apply Kd.R_drew)); exact Kd.R_mono cA.out (fun _ hk => by first | exact hk.1.1.1.1.1.1 | exact hk.1 | exact hk)⟩, ⟨by (with_reducible repeat (first | apply Kd.R_alloc | apply Kd.R_drewN | apply Kd.R_drew)); exact Kd.R_mono cV.out (fun _ hk => by first | exact hk.1 | simp [hk])⟩, ⟨by (with_reducible repeat (first | apply Kd.R_alloc | apply Kd.R_drewN | apply Kd.R_drew)); exact Kd.R_mono bK.out (fun _ hk => by first | exact hk.1.1.1.1.1 | exact hk.1 | exact hk)⟩, ⟨by (with_reducible repeat (first | apply Kd.R_alloc | apply Kd.R_drewN | apply Kd.R_drew)); exact Kd.R_mono bJ.out (fun _ hk => by first | exact hk.1.1.1.1.1.1 | exact hk.1 | exact hk)⟩, ⟨pB aJ.out⟩, ⟨pB aH.out⟩, ⟨pB aI.out⟩, ⟨pE HB⟩⟩
 case rest =>
  as_aux_lemma =>
  clear mO
  try clear c1
  try clear c2
  try clear p2
  try clear c3
  try clear c4
  try clear c5
  try clear c6
  try clear p6
  try clear c7
  try clear c19
  try clear c20
  try clear c25
  try clear c26
  try clear c27
  try clear c37
  try clear c38
  try clear c45
  try clear fC
  try clear iO
  try clear c46
  try clear iP
  try clear iQ
  try clear c47
  try clear iR
  try clear iS
  try clear c48
  try clear c49
  try clear c50
  try clear iT
  try clear iU
  try clear iV
  try clear c51
  try clear iW
  try clear iX
  try clear iY
  try clear c52
  try clear iZ
  try clear jA
  try clear c53
  try clear c54
  try clear c59
  try clear c60
  try clear p64
  try clear fL
  try clear fM
  try clear fN
  try clear fR
  try clear fS
  try clear fV
  try clear fW
  try clear fZ
  try clear gA
  try clear gD
  try clear gE
  try clear gH
  try clear gI
  try clear gS
  try clear gT
  try clear gN
  try clear gP
  try clear fO
  try clear fP
  try clear fQ
  try clear fT
  try clear fU
  try clear fX
  try clear fY
  try clear gB
  try clear gC
  try clear gF
  try clear gG
  try clear gJ
  try clear gK
  try clear gU
  try clear gV
  try clear gQ
  try clear gR
  (try clear aZ); (try clear aV); (try clear aK); (try clear aC); (try clear aD); (try clear aJ); (try clear aH); (try clear aI); (try clear HB)
  obtain ⟨kq, gM, rfl, HA, eN, aZ, aV, aK, aC, aD, aJ, aH, aI, HB⟩ := hcut
  cases kq with
  | zero => exact absurd HA.out (by simp [aA1.j0])
  | succ kj12 =>
   have H := HA.out
   clear HA
   simp only [aA1.j0] at H
   by_cases c65 : gM = true
   ·subst c65
    rw [if_pos rfl] at H
    exact absurd ((Option.some.inj H).trans HRT.out) (by simp)
   ·replace c65 := Bool.eq_false_iff.mpr c65
    subst c65
    rw [if_neg (show ¬ (false = true) by decide)] at H
    have H' := aM H
    clear H
    go_wp2
    go_loopg [18] kj12 (fun kq uA w' => ∃ (aT : Int), uA = .int .i64 aT ∧ Aside0 (aA1.l0 kq l2 (wrap64 (1 + (Int.tmod (wrap64 (a1)) 5))) bL aG dI dV aT aU bE bQ bS = some r) ∧ Aside0 (kq ≤ kj12) ∧ Aside0 (Kd.V (Kd.int .u8) 5 w' w.heap.size (fun k_ => (P2_ k_ ∨ w.heap.size ≤ k_) ∧ k_ ≠ bT ∧ k_ ≠ bA ∧ k_ ≠ aN) (.slice A2 l2.length c2) l2) ∧ Aside0 (Kd.R (Kd.int .i64) 3 w' w.heap.size (fun k_ => (w.heap.size ≤ k_)) jZ bL) ∧ Aside0 (Kd.R k42 42 w' w.heap.size (fun k_ => (w.heap.size ≤ k_) ∧ k_ ≠ aN) kA aG) ∧ Aside0 (Kd.R k67 67 w' w.heap.size (fun k_ => (w.heap.size ≤ k_)) (.slice cC aU.length bU) aU) ∧ Aside0 (Kd.R (Kd.int .i64) 3 w' w.heap.size (fun k_ => (w.heap.size ≤ k_)) (.slice bX bE.length bV) bE) ∧ Aside0 (w'.heap[bT]? = some (.cells #[(.slice dZ dG.length eA), .int .u8 dP, (.slice eB dH.length eC)] 76 (0, 0))) ∧ Aside0 (w'.heap[bA]? = some (.cells #[(.slice cC aU.length bU), (.slice bX bE.length bV)] 25 (0, 0))) ∧ Aside0 (w'.heap[aN]? = some (.cells #[.int .i64 bQ, .int .i64 bS] 42 (0, 0))) ∧ Aside0 (Below w.heap.size w w'))
    case atStart => exact ⟨(0), (by first | rfl | (simp; done) | (simp [*]; done)), H', ⟨Nat.le_refl _⟩, ⟨pV aZ.out⟩, ⟨pR aV.out⟩, ⟨pR aK.out⟩, ⟨pR aC.out⟩, ⟨pR aD.out⟩, ⟨pB aJ.out⟩, ⟨pB aH.out⟩, ⟨pB aI.out⟩, ⟨pE HB⟩⟩
    case round =>
     as_aux_lemma =>
     clear H'
     try clear c1
     try clear c2
     try clear p2
     try clear c3
     try clear c4
     try clear c5
     try clear c6
     try clear p6
     try clear c7
     try clear c19
     try clear c20
     try clear c25
     try clear c26
     try clear c27
     try clear c37
     try clear c38
     try clear c45
     try clear fC
     try clear iO
     try clear c46
     try clear iP
     try clear iQ
     try clear c47
     try clear iR
     try clear iS
     try clear c48
     try clear c49
     try clear c50
     try clear iT
     try clear iU
     try clear iV
     try clear c51
     try clear iW
     try clear iX
     try clear iY
     try clear c52
     try clear iZ
     try clear jA
     try clear c53
     try clear c54
     try clear c59
     try clear c60
     try clear p64
     try clear c65
     try clear fL
     try clear fM
     try clear fN
     try clear fR
     try clear fS
     try clear fV
     try clear fW
     try clear fZ
     try clear gA
     try clear gD
     try clear gE
     try clear gH
     try clear gI
     try clear gS
     try clear gT
     try clear gN
     try clear gP
     try clear fO
     try clear fP
     try clear fQ
     try clear fT
     try clear fU
     try clear fX
     try clear fY
     try clear gB
     try clear gC
     try clear gF
     try clear gG
     try clear gJ
     try clear gK
     try clear gU
     try clear gV
     try clear gQ
     try clear gR
     try clear p2
     try clear p6
     try clear p64
     (try clear aZ); (try clear aV); (try clear aK); (try clear aC); (try clear aD); (try clear aJ); (try clear aH); (try clear aI); (try clear HB)
     obtain ⟨aT, rfl, HA, iE, aZ, aV, aK, aC, aD, aJ, aH, aI, HB⟩ := hrel
     cases gk with
     | zero => exact absurd HA.out (by simp [aA1.l0])
     | succ k2 =>
      have H := HA.out
      clear HA
      simp only [aA1.l0] at H
      by_cases c66 : aT < 3
      rotate_left
      ·rw [if_neg c66] at H
       have kB : decide (aT < 3) = false := decide_eq_false c66
       clear c66
       by_cases c147 : (bL.length : Int) = 0
       ·rw [if_pos c147] at H
        have mP : ((bL.length : Int) == 0) = true := beq_iff_eq.mpr c147
        have mQ : ((bL.length : Int) != 0) = false := bne_eq_false_iff_eq.mpr c147
        clear c147
        obtain ⟨mK, qC, H⟩ := bi H
        obtain rfl := Option.some.inj H
        obtain ⟨sL, sM, oL⟩ := Kd.R_slice aV.out
        subst oL
        go_wp2_with (first | (go_at_call 17; (with_reducible refine (aD0.calls  mK _ qC.out).mono ?_); rintro e w150 ⟨rfl, hb⟩; replace aZ := vb aZ hb; replace aV := rb aV hb; replace aK := rb aK hb; replace aC := rb aC hb; replace aD := rb aD hb; replace aJ := bb aJ hb; replace aH := bb aH hb; replace aI := bb aI hb; replace HB := bs HB hb; (try clear hb); (try clear hb2); (try clear hk); (try clear hi)))
        go_ret
        exact ⟨eT, pE HB⟩
       ·rw [if_neg c147] at H
        have mP : ((bL.length : Int) == 0) = false := beq_eq_false_iff_ne.mpr c147
        have mQ : ((bL.length : Int) != 0) = true := bne_iff_ne.mpr c147
        have qD : ¬ (bL = []) := fun h_ => c147 (by rw [h_]; rfl)
        by_cases c151 : dI ≥ 0
        rotate_left
        ·rw [if_neg c151] at H
         have mR : decide (0 ≤ dI) = false := decide_eq_false c151
         clear c151
         exact absurd ((Option.some.inj H).trans HRT.out) (by simp)
        rw [if_pos c151] at H
        have mR : decide (0 ≤ dI) = true := decide_eq_true c151
        clear c151
        by_cases c152 : dI < (bL.length : Int)
        rotate_left
        ·rw [if_neg c152] at H
         have mS : decide (dI < (bL.length : Int)) = false := decide_eq_false c152
         clear c152
         exact absurd ((Option.some.inj H).trans HRT.out) (by simp)
        rw [if_pos c152] at H
        have mS : decide (dI < (bL.length : Int)) = true := decide_eq_true c152
        clear c152
        obtain ⟨mL, qE, H⟩ := bi H
        obtain rfl := Option.some.inj H
        obtain ⟨sN, sO, oM⟩ := Kd.R_slice aV.out
        subst oM
        go_wp2_with (first | (go_at_call 17; (with_reducible refine (aD0.calls  mL _ qE.out).mono ?_); rintro e w155 ⟨rfl, hb⟩; replace aZ := vb aZ hb; replace aV := rb aV hb; replace aK := rb aK hb; replace aC := rb aC hb; replace aD := rb aD hb; replace aJ := bb aJ hb; replace aH := bb aH hb; replace aI := bb aI hb; replace HB := bs HB hb; (try clear hb); (try clear hb2); (try clear hk); (try clear hi)))
        go_ret
        exact ⟨eT, pE HB⟩
      rw [if_pos c66] at H
      have kB : decide (aT < 3) = true := decide_eq_true c66
      clear c66
      have hk3_ : aT < 3 := of_decide_eq_true kB
      by_cases hk0_ : 0 ≤ aT
      case neg => rw [if_neg hk0_] at H; cases H
      rw [if_pos hk0_] at H
      obtain ⟨fG, kC⟩ : ∃ y_ : List Int, y_ = (([0] : List Int)) := ⟨_, rfl⟩
      replace H : Option.bind (aA6.f k2 aU bE (rd_L23 ([l2, fG, [255]] : List (List Int)) aT)) _ = some r := yy kC H
      have mE := aM kC
      clear kC
      obtain ⟨gW, kD⟩ : ∃ y_ : List Int, y_ = (([255] : List Int)) := ⟨_, rfl⟩
      replace H : Option.bind (aA6.f k2 aU bE (rd_L23 ([l2, fG, gW] : List (List Int)) aT)) _ = some r := yy kD H
      have mF := aM kD
      clear kD
      obtain ⟨eD, kE⟩ : ∃ y_ : List (List Int), y_ = (([l2, fG, gW] : List (List Int))) := ⟨_, rfl⟩
      replace H : Option.bind (aA6.f k2 aU bE (rd_L23 eD aT)) _ = some r := yy kE H
      have jB := aM kE
      clear kE
      obtain ⟨cH, uB, H⟩ := bi H
      obtain ⟨bB, uC, H⟩ := bi H
      have H' := aM H
      clear H
      try go_wp2
      replace aZ := aM (Kd.V_drew aZ.out)
      replace aV := aM (Kd.R_drew aV.out)
      replace aK := aM (Kd.R_drew aK.out)
      replace aC := aM (Kd.R_drew aC.out)
      replace aD := aM (Kd.R_drew aD.out)
      replace aJ := aM (blk_drew aJ.out)
      replace aH := aM (blk_drew aH.out)
      replace aI := aM (blk_drew aI.out)
      replace HB := aM (below_drew1 HB.out)
      refine start_ (n := 10) (S := fun w' => True) (ds := []) #[false, false, false, false, false, false, false, false, false, false] (by kernel_rfl) rfl rfl trivial (fun bC => ?_); refine with_tabW aA1.tab11 aA1.bits11 (fun HT_ HW_ => ?_)
      generalize wr.drew = w69 at aZ aV aK aC aD aJ aH aI HB bC ⊢
      refine pu 1 104 ?_
      refine pu 5 108 ?_
      refine inv_at [0, 2, 3, 4, 6, 7, 8, 9] (fun a0_ b a w' => ∃ (dK : Value) (dL : Value) (dJ : Value) (dD : Value) (m9_ : Value) (dS : Value) (dO : Value), a = putSel a0_ b [(0, 103, .agg #[.slice cC aU.length bU, .slice bX bE.length bV]), (2, 105, dK), (3, 106, dL), (4, 107, dJ), (6, 109, dS), (7, 110, dO), (8, 111, dD), (9, 19, m9_)] ∧ (Kd.R k67 67 w' w.heap.size (fun k_ => (w.heap.size ≤ k_)) (.slice cC aU.length bU) aU) ∧ (Kd.R (Kd.int .i64) 3 w' w.heap.size (fun k_ => (w.heap.size ≤ k_)) (.slice bX bE.length bV) bE) ∧ (Kd.R k42 42 w' w.heap.size (fun k_ => (w.heap.size ≤ k_) ∧ k_ ≠ aN) kA aG) ∧ (Kd.V (Kd.int .u8) 5 w' w.heap.size (fun k_ => (P2_ k_ ∨ w.heap.size ≤ k_) ∧ k_ ≠ bT ∧ k_ ≠ bA ∧ k_ ≠ aN) (.slice A2 l2.length c2) l2) ∧ (Kd.R (Kd.int .i64) 3 w' w.heap.size (fun k_ => (w.heap.size ≤ k_)) jZ bL) ∧ (w'.heap[bT]? = some (.cells #[.slice dZ dG.length eA, .int .u8 dP, .slice eB dH.length eC] 76 (0, 0))) ∧ (w'.heap[bA]? = some (.cells #[.slice cC aU.length bU, .slice bX bE.length bV] 25 (0, 0))) ∧ (w'.heap[aN]? = some (.cells #[.int .i64 bQ, .int .i64 bS] 42 (0, 0))) ∧ (Below w.heap.size w w') ∧ (b 2 = true → b 4 = false → Kd.R (Kd.int .u8) 5 w' w.heap.size (fun k_ => (w.heap.size ≤ k_)) dK fG) ∧ (b 3 = true → b 4 = false → Kd.R (Kd.int .u8) 5 w' w.heap.size (fun k_ => (w.heap.size ≤ k_)) dL gW) ∧ (b 4 = true → Kd.N (Kd.slice 5 (Kd.int .u8)) 74 w' w.heap.size (fun k_ => (P2_ k_ ∨ w.heap.size ≤ k_) ∧ k_ ≠ bT ∧ k_ ≠ bA ∧ k_ ≠ aN) dJ eD) ∧ (b 8 = true → Kd.R (Kd.int .i64) 3 w' w.heap.size (fun k_ => (w.heap.size ≤ k_) ∧ some k_ ≠ (.slice bX bE.length bV : Value).ownBlock ∧ some k_ ≠ (jZ : Value).ownBlock) dD cH) ∧ (b 9 = true → (m9_ : Value) = dD) ∧ (b 6 = true → ∃ ad_ c_, (dJ : Value) = .slice (some ad_) eD.length c_ ∧ dS = .pointer (some (ad_.add (aT).toNat))) ∧ (b 7 = true → b 8 = false → ∃ A_ c_, (dO : Value) = .slice A_ (rd_L23 eD aT).length c_ ∧ (rd_L23 eD aT).length ≤ c_ ∧ Kd.C (Kd.int .u8) w' A_ (rd_L23 eD aT).length (rd_L23 eD aT))) HT_.out HW_.out (by kernel_rfl) (by kernel_rfl) ?_ ?_ ?_
      ·exact ⟨.bool false, .bool false, .bool false, .bool false, .bool false, .bool false, .bool false,  by simp only [putSel, Bool.false_eq_true, if_false], aC.out, aD.out, aK.out, aZ.out, aV.out, aJ.out, aH.out, aI.out, HB.out, fun h_ => absurd h_ (by decide), fun h_ => absurd h_ (by decide), fun h_ => absurd h_ (by decide), fun h_ => absurd h_ (by decide), fun h_ => absurd h_ (by decide), fun h_ => absurd h_ (by decide), fun h_ => absurd h_ (by decide)⟩
      ·skip
       clear aJ aH aI HB aC aD aK aZ aV
       refine steps_cons ?_ ?_
       ·rintro b a w' ⟨dK, dL, dJ, dD, m9_, dS, dO, ha, aX, aY, bM, bY, bZ, bN, bO, bP, dM, cJ, cK, bW, cP, eR, eW, fH⟩ hb_ hon hoff
        refine ⟨_, rfl, fun K hK => ?_⟩
        have e7 : a.tmps[7]? = some (.pointer (some ⟨bA, 0, none⟩)) := by rw [ha]; exact (putSel_off rfl).trans rfl
        replace ha := aM ha
        have aC := aM aX
        have aD := aM aY
        have aK := aM bM
        have aZ := aM bY
        have aV := aM bZ
        have aJ := aM bN
        have aH := aM bO
        have aI := aM bP
        have HB := aM dM
        have uD : w'.cell? ⟨bA, 0, none⟩ = some (.slice cC aU.length bU) := (blk_cell aH.out 0).trans rfl
        have uE : w'.cell? ⟨bA, 1, none⟩ = some (.slice bX bE.length bV) := (blk_cell aH.out 1).trans rfl
        refine value_ (w1 := w') (v := .agg #[.slice cC aU.length bU, .slice bX bE.length bV]) (by rfl) rfl ?_ ?_
        ·go_simp
         (try simp only [i64_w])
         try rfl
        refine hK.out _ _ ⟨dK, dL, dJ, dD, m9_, dS, dO, (by rw [ha.out]; exact putSel_upk 0 hb_ rfl rfl rfl), aX, aY, bM, bY, bZ, bN, bO, bP, dM, cJ, cK, bW, fun h0_ => absurd ((hoff 8 (by kernel_rfl)).symm.trans h0_) (by decide), fun h0_ => absurd ((hoff 9 (by kernel_rfl)).symm.trans h0_) (by decide), eW, fH⟩
       refine steps_cons ?_ ?_
       ·rintro b a w' ⟨dK, dL, dJ, dD, m9_, dS, dO, ha, aX, aY, bM, bY, bZ, bN, bO, bP, dM, cJ, cK, bW, cP, eR, eW, fH⟩ hb_ hon hoff
        refine ⟨_, rfl, fun K hK => ?_⟩
        replace ha := aM ha
        have aC := aM aX
        have aD := aM aY
        have aK := aM bM
        have aZ := aM bY
        have aV := aM bZ
        have aJ := aM bN
        have aH := aM bO
        have aI := aM bP
        have HB := aM dM
        refine Kd.R_lit_step (Kd.int .u8) _ 5 ?hg (N := 105) ?hd (xs := ([0] : List Int)) (inner := [.int .u8 0]) (ok := fun _ => True) (okp := fun _ => True) ?hr ?hp (fun _ hk => hk) trivial (Below.refl _ _) (Nat.le_refl _) (by simp) ?_; (case hd => rfl); (case hg => rfl); (case hr => first | (go_simp; done) | (go_simp; rfl)); (case hp => exact (Reps.one (show Kd.M (Kd.int .u8) _ _ _ 0 [.int .u8 0] from rfl) (Reps.none _ _)))
        intro dK w70 dW hb hg_ hnew_
        clear hg_ hnew_
        (first | rw [← mE.out] at dW | (simp only [Int.reduceToNat] at dW; rw [← mE.out] at dW))
        have n0_ := aM (Kd.V_elder' (pV aZ.out) (Kd.R_base dW) hb)
        have n1_ := rb aV hb
        have n2_ := rb aK hb
        have n3_ := rb aC hb
        have n4_ := rb aD hb
        have n5_ := aM (Kd.R_lower (Kd.R_newM (M := fun k_ => (w.heap.size ≤ k_)) dW (below_size (pE HB)) (fun k_ h_ => h_)) (below_size (pE HB)))
        have n6_ := bb aJ hb
        have n7_ := bb aH hb
        have n8_ := bb aI hb
        have n9_ := bs HB hb
        have lW := fun (h0_ : b 3 = true) (h1_ : b 4 = false) => (show Kd.R (Kd.int .u8) 5 w70 w.heap.size (fun k_ => (w.heap.size ≤ k_)) dL gW from by first | exact (Kd.R_elder' (by refine pR ?_; exact (cK h0_ h1_)) (Kd.R_base dW) hb) | exact Kd.R_mono (Kd.R_elder' (by refine pR ?_; exact (cK h0_ h1_)) (Kd.R_base dW) hb) (fun _ h_ => by first | trivial | exact h_ | exact h_.1))
        clear aZ aV aK aC aD aJ aH aI HB
        have aZ := n0_
        have aV := n1_
        have aK := n2_
        have aC := n3_
        have aD := n4_
        have fI := n5_
        have aJ := n6_
        have aH := n7_
        have aI := n8_
        have HB := n9_
        clear n0_ n1_ n2_ n3_ n4_ n5_ n6_ n7_ n8_ n9_ hb dW
        refine hK.out _ _ ⟨dK, dL, dJ, dD, m9_, dS, dO, (by rw [ha.out]; exact putSel_upk 1 hb_ rfl rfl rfl), (pR aC.out), (pR aD.out), (pR aK.out), (by refine pV ?_; exact Kd.V_mono aZ.out (fun _ hk => hk.1)), (pR aV.out), (pB aJ.out), (pB aH.out), (pB aI.out), (pE HB), fun _ _ => (by refine pR ?_; exact Kd.R_mono fI.out (fun _ hk => hk.1)), lW, fun h0_ => absurd ((hoff 4 (by kernel_rfl)).symm.trans h0_) (by decide), fun h0_ => absurd ((hoff 8 (by kernel_rfl)).symm.trans h0_) (by decide), fun h0_ => absurd ((hoff 9 (by kernel_rfl)).symm.trans h0_) (by decide), fun h0_ => absurd ((hoff 6 (by kernel_rfl)).symm.trans h0_) (by decide), fun h0_ _ => absurd ((hoff 7 (by kernel_rfl)).symm.trans h0_) (by decide)⟩
       refine steps_cons ?_ ?_
       ·rintro b a w' ⟨dK, dL, dJ, dD, m9_, dS, dO, ha, aX, aY, bM, bY, bZ, bN, bO, bP, dM, cJ, cK, bW, cP, eR, eW, fH⟩ hb_ hon hoff
        refine ⟨_, rfl, fun K hK => ?_⟩
        replace ha := aM ha
        have aC := aM aX
        have aD := aM aY
        have aK := aM bM
        have aZ := aM bY
        have aV := aM bZ
        have aJ := aM bN
        have aH := aM bO
        have aI := aM bP
        have HB := aM dM
        refine Kd.R_lit_step (Kd.int .u8) _ 5 ?hg (N := 106) ?hd (xs := ([255] : List Int)) (inner := [.int .u8 255]) (ok := fun _ => True) (okp := fun _ => True) ?hr ?hp (fun _ hk => hk) trivial (Below.refl _ _) (Nat.le_refl _) (by simp) ?_; (case hd => rfl); (case hg => rfl); (case hr => first | (go_simp; done) | (go_simp; rfl)); (case hp => exact (Reps.one (show Kd.M (Kd.int .u8) _ _ _ 255 [.int .u8 255] from rfl) (Reps.none _ _)))
        intro dL w70 dW hb hg_ hnew_
        clear hg_ hnew_
        (first | rw [← mF.out] at dW | (simp only [Int.reduceToNat] at dW; rw [← mF.out] at dW))
        have n0_ := aM (Kd.V_elder' (pV aZ.out) (Kd.R_base dW) hb)
        have n1_ := rb aV hb
        have n2_ := rb aK hb
        have n3_ := rb aC hb
        have n4_ := rb aD hb
        have n5_ := aM (Kd.R_lower (Kd.R_newM (M := fun k_ => (w.heap.size ≤ k_)) dW (below_size (pE HB)) (fun k_ h_ => h_)) (below_size (pE HB)))
        have n6_ := bb aJ hb
        have n7_ := bb aH hb
        have n8_ := bb aI hb
        have n9_ := bs HB hb
        have lX := fun (h0_ : b 2 = true) (h1_ : b 4 = false) => (show Kd.R (Kd.int .u8) 5 w70 w.heap.size (fun k_ => (w.heap.size ≤ k_)) dK fG from by first | exact (Kd.R_elder' (by refine pR ?_; exact (cJ h0_ h1_)) (Kd.R_base dW) hb) | exact Kd.R_mono (Kd.R_elder' (by refine pR ?_; exact (cJ h0_ h1_)) (Kd.R_base dW) hb) (fun _ h_ => by first | trivial | exact h_ | exact h_.1))
        clear aZ aV aK aC aD aJ aH aI HB
        have aZ := n0_
        have aV := n1_
        have aK := n2_
        have aC := n3_
        have aD := n4_
        have fJ := n5_
        have aJ := n6_
        have aH := n7_
        have aI := n8_
        have HB := n9_
        clear n0_ n1_ n2_ n3_ n4_ n5_ n6_ n7_ n8_ n9_ hb dW
        refine hK.out _ _ ⟨dK, dL, dJ, dD, m9_, dS, dO, (by rw [ha.out]; exact putSel_upk 2 hb_ rfl rfl rfl), (pR aC.out), (pR aD.out), (pR aK.out), (by refine pV ?_; exact Kd.V_mono aZ.out (fun _ hk => by first | exact hk.1 | simp [hk])), (pR aV.out), (pB aJ.out), (pB aH.out), (pB aI.out), (pE HB), lX, fun _ _ => (by refine pR ?_; exact Kd.R_mono fJ.out (fun _ hk => hk.1)), fun h0_ => absurd ((hoff 4 (by kernel_rfl)).symm.trans h0_) (by decide), fun h0_ => absurd ((hoff 8 (by kernel_rfl)).symm.trans h0_) (by decide), fun h0_ => absurd ((hoff 9 (by kernel_rfl)).symm.trans h0_) (by decide), fun h0_ => absurd ((hoff 6 (by kernel_rfl)).symm.trans h0_) (by decide), fun h0_ _ => absurd ((hoff 7 (by kernel_rfl)).symm.trans h0_) (by decide)⟩
       refine steps_cons ?_ ?_
       ·rintro b a w' ⟨dK, dL, dJ, dD, m9_, dS, dO, ha, aX, aY, bM, bY, bZ, bN, bO, bP, dM, cJ, cK, bW, cP, eR, eW, fH⟩ hb_ hon hoff
        refine ⟨_, rfl, fun K hK => ?_⟩
        have uF : a.tmps[104]? = some (.slice A2 l2.length c2) := by rw [ha]; exact (putSel_off rfl).trans rfl
        have uG : a.tmps[105]? = some (dK) := by rw [ha]; exact putSel_on (e := (2, 105, dK)) 1 rfl rfl (hon 2 (by kernel_rfl)) rfl
        have uH : a.tmps[106]? = some (dL) := by rw [ha]; exact putSel_on (e := (3, 106, dL)) 2 rfl rfl (hon 3 (by kernel_rfl)) rfl
        replace ha := aM ha
        have aC := aM aX
        have aD := aM aY
        have aK := aM bM
        have aZ := aM bY
        have aV := aM bZ
        have aJ := aM bN
        have aH := aM bO
        have aI := aM bP
        have HB := aM dM
        have fI := aM (cJ (hon 2 (by kernel_rfl)) hb_)
        have fJ := aM (cK (hon 3 (by kernel_rfl)) hb_)
        obtain ⟨mT, mU, oN⟩ := Kd.R_slice fI.out
        (first | subst oN | (injection oN with f1_ f2_ f3_; have f4_ := f1_.symm; have f5_ := f3_.symm; clear f1_ f2_ f3_; subst f4_; subst f5_))
        obtain ⟨mV, mW, oO⟩ := Kd.R_slice fJ.out
        (first | subst oO | (injection oO with f1_ f2_ f3_; have f4_ := f1_.symm; have f5_ := f3_.symm; clear f1_ f2_ f3_; subst f4_; subst f5_))
        refine Kd.N_lit_step (Kd.slice 5 (Kd.int .u8)) _ 74 ?hg (N' := 107) ?hd (xs := ([l2, fG, gW] : List (List Int))) (inner := [.slice A2 l2.length c2, .slice mT fG.length mU, .slice mV gW.length mW]) (ok := (fun k_ => (P2_ k_ ∨ w.heap.size ≤ k_) ∧ k_ ≠ bT ∧ k_ ≠ bA ∧ k_ ≠ aN)) (okp := (fun k_ => (P2_ k_ ∨ w.heap.size ≤ k_) ∧ k_ ≠ bT ∧ k_ ≠ bA ∧ k_ ≠ aN)) ?hr ?hp (fun _ hk => hk) ((show ∀ k_, w'.heap.size ≤ k_ → (fun k_ => (P2_ k_ ∨ w.heap.size ≤ k_) ∧ k_ ≠ bT ∧ k_ ≠ bA ∧ k_ ≠ aN) k_ from fun k_ hk => ⟨(.inr (Nat.le_trans (below_size (pE HB)) hk)), Kd.freshB (g := bT) (o := .cells #[.slice dZ dG.length eA, .int .u8 dP, .slice eB dH.length eC] 76 (0, 0)) (pB aJ.out) k_ hk, Kd.freshB (g := bA) (o := .cells #[.slice cC aU.length bU, .slice bX bE.length bV] 25 (0, 0)) (pB aH.out) k_ hk, Kd.freshB (g := aN) (o := .cells #[.int .i64 bQ, .int .i64 bS] 42 (0, 0)) (pB aI.out) k_ hk⟩) _ (Nat.le_refl _)) (Below.refl _ _) (Nat.le_refl _) (by simp) ?_; (case hd => rfl); (case hg => rfl); (case hr => first | (go_simp; done) | (go_simp; rfl)); (case hp => exact (Reps.one (show Kd.FK (Kd.slice 5 (Kd.int .u8)) _ _ l2 [.slice A2 l2.length c2] from (Kd.FK_slice_mk (Kd.V_reads' (Kd.V_mono (ok' := (fun k_ => (P2_ k_ ∨ w.heap.size ≤ k_) ∧ k_ ≠ bT ∧ k_ ≠ bA ∧ k_ ≠ aN)) (aZ.out) (fun _ hk => by first | exact hk.1 | simp [hk]))).2.1 (Kd.V_F (Kd.V_mono (ok' := (fun k_ => (P2_ k_ ∨ w.heap.size ≤ k_) ∧ k_ ≠ bT ∧ k_ ≠ bA ∧ k_ ≠ aN)) (aZ.out) (fun _ hk => by first | exact hk.1 | simp [hk]))))) (Reps.one (show Kd.FK (Kd.slice 5 (Kd.int .u8)) _ _ fG [.slice mT fG.length mU] from (Kd.FK_slice_mk (Kd.R_reads' (Kd.R_mono (ok' := (fun k_ => (P2_ k_ ∨ w.heap.size ≤ k_) ∧ k_ ≠ bT ∧ k_ ≠ bA ∧ k_ ≠ aN)) (Kd.R_types (Kd.R_types (Kd.R_types (fI.out) aJ.out (by decide)) aH.out (by decide)) aI.out (by decide)) (fun _ hk => by first | exact hk.1 | simp [hk]))).2.1 (Kd.R_F (Kd.R_mono (ok' := (fun k_ => (P2_ k_ ∨ w.heap.size ≤ k_) ∧ k_ ≠ bT ∧ k_ ≠ bA ∧ k_ ≠ aN)) (Kd.R_types (Kd.R_types (Kd.R_types (fI.out) aJ.out (by decide)) aH.out (by decide)) aI.out (by decide)) (fun _ hk => by first | exact hk.1 | simp [hk]))))) (Reps.one (show Kd.FK (Kd.slice 5 (Kd.int .u8)) _ _ gW [.slice mV gW.length mW] from (Kd.FK_slice_mk (Kd.R_reads' (Kd.R_mono (ok' := (fun k_ => (P2_ k_ ∨ w.heap.size ≤ k_) ∧ k_ ≠ bT ∧ k_ ≠ bA ∧ k_ ≠ aN)) (Kd.R_types (Kd.R_types (Kd.R_types (fJ.out) aJ.out (by decide)) aH.out (by decide)) aI.out (by decide)) (fun _ hk => by first | exact hk.1 | simp [hk]))).2.1 (Kd.R_F (Kd.R_mono (ok' := (fun k_ => (P2_ k_ ∨ w.heap.size ≤ k_) ∧ k_ ≠ bT ∧ k_ ≠ bA ∧ k_ ≠ aN)) (Kd.R_types (Kd.R_types (Kd.R_types (fJ.out) aJ.out (by decide)) aH.out (by decide)) aI.out (by decide)) (fun _ hk => by first | exact hk.1 | simp [hk]))))) (Reps.none _ _)))))
        intro dJ w77 jP hb hg_ hnew_
        clear hg_ hnew_
        (first | rw [← jB.out] at jP | (simp only [Int.reduceToNat] at jP; rw [← jB.out] at jP))
        replace aZ := aM (Kd.V_elder' (pV aZ.out) (Kd.N_base jP) hb)
        replace aV := rb aV hb
        replace aK := rb aK hb
        replace aC := rb aC hb
        replace aD := rb aD hb
        have dN := aM (Kd.N_lower jP (below_size (pE HB)))
        replace aJ := bb aJ hb
        replace aH := bb aH hb
        replace aI := bb aI hb
        replace HB := bs HB hb
        clear fI fJ hb jP
        refine hK.out _ _ ⟨.slice mT fG.length mU, .slice mV gW.length mW, dJ, dD, m9_, dS, dO, (by rw [ha.out]; exact putSel_upk 3 hb_ rfl rfl rfl), (pR aC.out), (pR aD.out), (pR aK.out), (by refine pV ?_; exact Kd.V_mono aZ.out (fun _ hk => by first | exact hk.1 | simp [hk])), (pR aV.out), (pB aJ.out), (pB aH.out), (pB aI.out), (pE HB), fun _ h1_ => absurd ((up_self b 4).symm.trans h1_) (by decide), fun _ h1_ => absurd ((up_self b 4).symm.trans h1_) (by decide), fun _ => (pN dN.out), fun h0_ => absurd ((hoff 8 (by kernel_rfl)).symm.trans h0_) (by decide), fun h0_ => absurd ((hoff 9 (by kernel_rfl)).symm.trans h0_) (by decide), fun h0_ => absurd ((hoff 6 (by kernel_rfl)).symm.trans h0_) (by decide), fun h0_ _ => absurd ((hoff 7 (by kernel_rfl)).symm.trans h0_) (by decide)⟩
       refine steps_cons ?_ ?_
       ·rintro b a w' ⟨dK, dL, dJ, dD, m9_, dS, dO, ha, aX, aY, bM, bY, bZ, bN, bO, bP, dM, cJ, cK, bW, cP, eR, eW, fH⟩ hb_ hon hoff
        refine ⟨_, rfl, fun K hK => ?_⟩
        have uI : a.tmps[108]? = some (.int .i64 aT) := by rw [ha]; exact (putSel_off rfl).trans rfl
        have qF : a.tmps[107]? = some (dJ) := by rw [ha]; exact putSel_on (e := (4, 107, dJ)) 3 rfl rfl (hon 4 (by kernel_rfl)) rfl
        replace ha := aM ha
        have aC := aM aX
        have aD := aM aY
        have aK := aM bM
        have aZ := aM bY
        have aV := aM bZ
        have aJ := aM bN
        have aH := aM bO
        have aI := aM bP
        have HB := aM dM
        have dN := aM (bW (hon 4 (by kernel_rfl)))
        obtain ⟨A6_, c6_, e6_⟩ := Kd.N_slice dN.out
        rw [e6_] at qF
        have hN_ := dN.out
        rw [e6_] at hN_
        have hlen_ : (aT : Int) < (eD.length : Int) := by rw [show eD.length = 3 by rw [jB.out]; rfl]; exact hk3_
        obtain ⟨ad6_, Ae_, ce_, ea_, hx_, hl_, hg_⟩ := at_L23 (Kd.N_reads' hN_).2.2 aT hk0_ hlen_
        cases ea_
        have p6_ : (0 ≤ (aT : Int)) = True := eq_true hk0_
        have q6_ : ((aT : Int) < (eD.length : Int)) = True := eq_true hlen_
        clear hN_ hx_ hl_ hg_
        refine value_ (w1 := w') (v := .pointer (some (ad6_.add (aT).toNat))) (by rfl) rfl ?_ ?_
        ·go_simp
         (try simp only [i64_w])
         try rfl
        refine hK.out _ _ ⟨dK, dL, dJ, dD, m9_, (.pointer (some (ad6_.add (aT).toNat))), dO, (by rw [ha.out]; exact putSel_upk 4 hb_ rfl rfl rfl), aX, aY, bM, bY, bZ, bN, bO, bP, dM, fun _ h1_ => absurd ((hon 4 (by kernel_rfl)).symm.trans h1_) (by decide), fun _ h1_ => absurd ((hon 4 (by kernel_rfl)).symm.trans h1_) (by decide), bW, fun h0_ => absurd ((hoff 8 (by kernel_rfl)).symm.trans h0_) (by decide), fun h0_ => absurd ((hoff 9 (by kernel_rfl)).symm.trans h0_) (by decide), fun _ => ⟨ad6_, c6_, e6_, rfl⟩, fun h0_ _ => absurd ((hoff 7 (by kernel_rfl)).symm.trans h0_) (by decide)⟩
       refine steps_cons ?_ ?_
       ·rintro b a w' ⟨dK, dL, dJ, dD, m9_, dS, dO, ha, aX, aY, bM, bY, bZ, bN, bO, bP, dM, cJ, cK, bW, cP, eR, eW, fH⟩ hb_ hon hoff
        refine ⟨_, rfl, fun K hK => ?_⟩
        have qG : a.tmps[109]? = some (dS) := by rw [ha]; exact putSel_on (e := (6, 109, dS)) 4 rfl rfl (hon 6 (by kernel_rfl)) rfl
        replace ha := aM ha
        have aC := aM aX
        have aD := aM aY
        have aK := aM bM
        have aZ := aM bY
        have aV := aM bZ
        have aJ := aM bN
        have aH := aM bO
        have aI := aM bP
        have HB := aM dM
        have dN := aM (bW (hon 4 (by kernel_rfl)))
        obtain ⟨ad6_, c6_, e6_, e9_⟩ := eW (hon 6 (by kernel_rfl))
        rw [e9_] at qG
        have hN_ := dN.out
        rw [e6_] at hN_
        have hlen_ : (aT : Int) < (eD.length : Int) := by rw [show eD.length = 3 by rw [jB.out]; rfl]; exact hk3_
        obtain ⟨ad7_, Ae_, ce_, ea_, hx_, hl_, hg_⟩ := at_L23 (Kd.N_reads' hN_).2.2 aT hk0_ hlen_
        cases ea_
        clear hN_
        refine value_ (w1 := w') (v := .slice Ae_ (rd_L23 eD aT).length ce_) (by rfl) rfl ?_ ?_
        ·go_simp
         (try simp only [i64_w])
         try rfl
        refine hK.out _ _ ⟨dK, dL, dJ, dD, m9_, dS, (.slice Ae_ (rd_L23 eD aT).length ce_), (by rw [ha.out]; exact putSel_upk 5 hb_ rfl rfl rfl), aX, aY, bM, bY, bZ, bN, bO, bP, dM, fun _ h1_ => absurd ((hon 4 (by kernel_rfl)).symm.trans h1_) (by decide), fun _ h1_ => absurd ((hon 4 (by kernel_rfl)).symm.trans h1_) (by decide), bW, fun h0_ => absurd ((hoff 8 (by kernel_rfl)).symm.trans h0_) (by decide), fun h0_ => absurd ((hoff 9 (by kernel_rfl)).symm.trans h0_) (by decide), eW, fun _ _ => ⟨Ae_, ce_, rfl, hl_, hg_⟩⟩
       refine steps_cons ?_ ?_
       ·rintro b a w' ⟨dK, dL, dJ, dD, m9_, dS, dO, ha, aX, aY, bM, bY, bZ, bN, bO, bP, dM, cJ, cK, bW, cP, eR, eW, fH⟩ hb_ hon hoff
        refine ⟨_, rfl, fun K hK => ?_⟩
        have oP : a.tmps[103]? = some (.agg #[.slice cC aU.length bU, .slice bX bE.length bV]) := by rw [ha]; exact putSel_on (e := (0, 103, .agg #[.slice cC aU.length bU, .slice bX bE.length bV])) 0 rfl rfl (hon 0 (by kernel_rfl)) rfl
        have mX : a.tmps[110]? = some (dO) := by rw [ha]; exact putSel_on (e := (7, 110, dO)) 5 rfl rfl (hon 7 (by kernel_rfl)) rfl
        obtain ⟨Ae_, ce_, ev_, hl_, hg_⟩ := fH (hon 7 (by kernel_rfl)) hb_
        rw [ev_] at mX
        replace ha := aM ha
        have aC := aM aX
        have aD := aM aY
        have aK := aM bM
        have aZ := aM bY
        have aV := aM bZ
        have aJ := aM bN
        have aH := aM bO
        have aI := aM bP
        have HB := aM dM
        have dN := aM (bW (hon 4 (by kernel_rfl)))
        refine goes_ Tryz.func51 (by kernel_rfl) rfl #[.agg #[.slice cC aU.length bU, .slice bX bE.length bV], .slice Ae_ (rd_L23 eD aT).length ce_] (by rfl) rfl rfl (by first | (simp only [List.map_toArray, List.map_cons, List.map_nil, Act.eval, Array.getD_eq_getD_getElem?, Option.getD_some, oP, mX]; done) | (simp only [List.map_toArray, List.map_cons, List.map_nil, Act.eval, Array.getD_eq_getD_getElem?, Option.getD_some, oP, mX]; rfl)) ?_
        with_reducible refine (aA6.calls k2 _ _ aU _ _ bE _ _ (rd_L23 eD aT) cH _ ?cF ?cG ?cL ?cM ?kF ?kG uB.out).mono ?_
        (case cF => exact pC (Kd.R_reads' aC.out).2.2)
        (case cG => exact (Kd.R_reads' aC.out).2.1)
        (case cL => exact pC (Kd.R_reads' aD.out).2.2)
        (case cM => exact (Kd.R_reads' aD.out).2.1)
        (case kF => exact hg_)
        (case kG => exact hl_)
        rintro e w79 ⟨dD, rfl, cW, hb⟩
        refine ⟨_, rfl, ?_⟩
        replace aZ := aM (Kd.V_elder' (pV aZ.out) (Kd.R_base cW) hb)
        replace aK := rb aK hb
        replace aC := rb aC hb
        replace dN := aM (Kd.N_elder' (pN dN.out) (Kd.R_base cW) hb)
        have eJ := aM (Kd.R_lower (Kd.R_new' (Kd.R_new' (Kd.R_newM (M := fun k_ => (w.heap.size ≤ k_)) cW (below_size (pE HB)) (fun k_ h_ => h_)) (Kd.R_lt (pR aV.out))) (Kd.R_lt (pR aD.out))) (below_size (pE HB)))
        replace aV := re aV cW hb
        replace aD := re aD cW hb
        replace aJ := bb aJ hb
        replace aH := bb aH hb
        replace aI := bb aI hb
        replace HB := bs HB hb
        (try clear hb)
        (try clear hb2)
        (try clear hk)
        (try clear hi)
        (try clear cW)
        refine hK.out _ _ ⟨dK, dL, dJ, dD, m9_, dS, dO, (by rw [ha.out]; exact putSel_upk 6 hb_ rfl rfl rfl), (pR aC.out), (by refine pR ?_; exact Kd.R_mono aD.out (fun _ hk => by first | exact hk | exact hk.1)), (pR aK.out), (by refine pV ?_; exact Kd.V_mono aZ.out (fun _ hk => by first | exact hk.1 | simp [hk])), (by refine pR ?_; exact Kd.R_mono aV.out (fun _ hk => by first | exact hk | exact hk.1)), (pB aJ.out), (pB aH.out), (pB aI.out), (pE HB), fun _ h1_ => absurd ((hon 4 (by kernel_rfl)).symm.trans h1_) (by decide), fun _ h1_ => absurd ((hon 4 (by kernel_rfl)).symm.trans h1_) (by decide), fun _ => (by refine pN ?_; exact Kd.N_mono dN.out (fun _ hk => by first | exact hk.1 | simp [hk])), fun _ => (by refine pR ?_; exact Kd.R_mono eJ.out (fun _ hk => by first | exact hk.1 | simp [hk])), fun h0_ => absurd ((hoff 9 (by kernel_rfl)).symm.trans h0_) (by decide), eW, fun _ h1_ => absurd ((up_self b 8).symm.trans h1_) (by decide)⟩
       refine steps_cons ?_ ?_
       ·rintro b a w' ⟨dK, dL, dJ, dD, m9_, dS, dO, ha, aX, aY, bM, bY, bZ, bN, bO, bP, dM, cJ, cK, bW, cP, eR, eW, fH⟩ hb_ hon hoff
        refine ⟨_, rfl, fun K hK => ?_⟩
        have uJ : a.tmps[111]? = some (dD) := by rw [ha]; exact putSel_on (e := (8, 111, dD)) 6 rfl rfl (hon 8 (by kernel_rfl)) rfl
        replace ha := aM ha
        have aC := aM aX
        have aD := aM aY
        have aK := aM bM
        have aZ := aM bY
        have aV := aM bZ
        have aJ := aM bN
        have aH := aM bO
        have aI := aM bP
        have HB := aM dM
        have dN := aM (bW (hon 4 (by kernel_rfl)))
        have eJ := aM (cP (hon 8 (by kernel_rfl)))
        refine value_ (w1 := w') (v := dD) (by rfl) rfl ?_ ?_
        ·go_simp
         (try simp only [i64_w])
         try rfl
        refine hK.out _ _ ⟨dK, dL, dJ, dD, (dD), dS, dO, (by rw [ha.out]; exact putSel_upk 7 hb_ rfl rfl rfl), aX, aY, bM, bY, bZ, bN, bO, bP, dM, fun _ h1_ => absurd ((hon 4 (by kernel_rfl)).symm.trans h1_) (by decide), fun _ h1_ => absurd ((hon 4 (by kernel_rfl)).symm.trans h1_) (by decide), bW, cP, fun _ => rfl, eW, fun _ h1_ => absurd ((hon 8 (by kernel_rfl)).symm.trans h1_) (by decide)⟩
       exact steps_nil
      rintro b a w79 hall ⟨dK, dL, dJ, dD, m9_, dS, dO, ha, aX, aY, bM, bY, bZ, bN, bO, bP, dM, cJ, cK, bW, cP, eR, eW, fH⟩
      clear hk3_ hk0_ aJ aH aI HB aC aD aK aZ aV
      have hb0_ := hall 0 (by kernel_rfl)
      have hb2_ := hall 2 (by kernel_rfl)
      have hb3_ := hall 3 (by kernel_rfl)
      have hb4_ := hall 4 (by kernel_rfl)
      have hb6_ := hall 6 (by kernel_rfl)
      have hb7_ := hall 7 (by kernel_rfl)
      have hb8_ := hall 8 (by kernel_rfl)
      have hb9_ := hall 9 (by kernel_rfl)
      subst ha
      obtain rfl := eR hb9_
      simp only [putSel, hb0_, hb2_, hb3_, hb4_, hb6_, hb7_, hb8_, hb9_, if_true, Act.put, List.setIfInBounds_toArray, List.set_cons_zero, List.set_cons_succ]
      have aC := aM aX
      clear aX
      have aD := aM aY
      clear aY
      have aK := aM bM
      clear bM
      have aZ := aM bY
      clear bY
      have aV := aM bZ
      clear bZ
      have aJ := aM bN
      clear bN
      have aH := aM bO
      clear bO
      have aI := aM bP
      clear bP
      have HB := aM dM
      clear dM cJ cK
      have dN := aM (bW hb4_)
      clear bW
      have eJ := aM (cP hb8_)
      clear cP hall hb0_ hb2_ hb3_ hb4_ hb6_ hb7_ hb8_ hb9_
      have sP := dY.out
      have sQ := dX.out
      have sR := cS.out
      have sS := cT.out
      obtain ⟨lY, lZ, mA, mB⟩ := cf2 aH
      obtain ⟨gX, gY, qH⟩ := Kd.R_slice aV.out
      subst qH
      obtain ⟨iF, iB, qI⟩ := Kd.R_slice eJ.out
      subst qI
      try go_wp2_with (first | ((with_reducible refine gc 52 rfl ?_); refine gL 116 Tryz.func52 #[.agg #[.slice cC aU.length bU, .slice bX bE.length bV], .slice gX bL.length gY, .int .i64 (wrap64 (1 + (Int.tmod (wrap64 (a1)) 5))), .slice iF cH.length iB] ?_; (with_reducible refine (aA3.calls k2 _ _ aU _ _ bE _ _ bL (wrap64 (1 + (Int.tmod (wrap64 (a1)) 5))) _ _ cH bB _ ?cF ?cG ?cL ?cM ?kF ?kG ?oQ ?oR uC.out).mono ?_); (case cF => exact pC (Kd.R_reads' aC.out).2.2); (case cG => exact (Kd.R_reads' aC.out).2.1); (case cL => exact pC (Kd.R_reads' aD.out).2.2); (case cM => exact (Kd.R_reads' aD.out).2.1); (case kF => exact pC (Kd.R_reads' aV.out).2.2); (case kG => exact (Kd.R_reads' aV.out).2.1); (case oQ => exact pC (Kd.R_reads' eJ.out).2.2); (case oR => exact (Kd.R_reads' eJ.out).2.1); rintro e w85 ⟨qJ, rfl, cW, hb⟩; refine ⟨_, rfl, ?_⟩; replace aZ := aM (Kd.V_elder' (pV aZ.out) (Kd.R_base cW) hb); replace aK := rb aK hb; replace aC := rb aC hb; replace dN := aM (Kd.N_elder' (pN dN.out) (Kd.R_base cW) hb); have oS := aM (Kd.R_lower (Kd.R_new' (Kd.R_new' (Kd.R_new' (Kd.R_newM (M := fun k_ => (w.heap.size ≤ k_)) cW (below_size (pE HB)) (fun k_ h_ => h_)) (Kd.R_lt (pR aV.out))) (Kd.R_lt (pR aD.out))) (Kd.R_lt (pR eJ.out))) (below_size (pE HB))); replace aV := re aV cW hb; replace aD := re aD cW hb; replace eJ := re eJ cW hb; replace aJ := bb aJ hb; replace aH := bb aH hb; replace aI := bb aI hb; replace HB := bs HB hb; clear hb cW))
      go_loopg [21, 22] k2 (fun kq uK v22 w' => ∃ (cU : Int) (aA : Int), uK = .int .i64 cU ∧ v22 = .int .i64 aA ∧ Aside0 (aA1.l1 kq l2 (wrap64 (1 + (Int.tmod (wrap64 (a1)) 5))) bL aG dI dV aT cH bB cU aA aU bE bQ bS = some r) ∧ Aside0 (kq ≤ k2) ∧ Aside0 (Kd.V (Kd.int .u8) 5 w' w.heap.size (fun k_ => (P2_ k_ ∨ w.heap.size ≤ k_) ∧ k_ ≠ bT ∧ k_ ≠ bA ∧ k_ ≠ aN) (.slice A2 l2.length c2) l2) ∧ Aside0 (Kd.R (Kd.int .i64) 3 w' w.heap.size (fun k_ => (w.heap.size ≤ k_)) (.slice gX bL.length gY) bL) ∧ Aside0 (Kd.R k42 42 w' w.heap.size (fun k_ => (w.heap.size ≤ k_) ∧ k_ ≠ aN) kA aG) ∧ Aside0 (Kd.R (Kd.int .i64) 3 w' w.heap.size (fun k_ => (w.heap.size ≤ k_)) (.slice iF cH.length iB) cH) ∧ Aside0 (Kd.R (Kd.int .i64) 3 w' w.heap.size (fun k_ => (w.heap.size ≤ k_)) qJ bB) ∧ Aside0 (Kd.R k67 67 w' w.heap.size (fun k_ => (w.heap.size ≤ k_)) (.slice cC aU.length bU) aU) ∧ Aside0 (Kd.R (Kd.int .i64) 3 w' w.heap.size (fun k_ => (w.heap.size ≤ k_)) (.slice bX bE.length bV) bE) ∧ Aside0 (w'.heap[bT]? = some (.cells #[(.slice dZ dG.length eA), .int .u8 dP, (.slice eB dH.length eC)] 76 (0, 0))) ∧ Aside0 (w'.heap[bA]? = some (.cells #[(.slice cC aU.length bU), (.slice bX bE.length bV)] 25 (0, 0))) ∧ Aside0 (w'.heap[aN]? = some (.cells #[.int .i64 bQ, .int .i64 bS] 42 (0, 0))) ∧ Aside0 (Below w.heap.size w w'))
      case atStart => exact ⟨(0), (0), (by first | rfl | (simp; done) | (simp [*]; done)), (by first | rfl | (simp; done) | (simp [*]; done)), H', ⟨Nat.le_refl _⟩, ⟨by (with_reducible repeat (first | apply Kd.V_alloc | apply Kd.V_drewN | apply Kd.V_drew)); exact Kd.V_mono aZ.out (fun _ hk => by first | exact hk.1 | simp [hk])⟩, ⟨by (with_reducible repeat (first | apply Kd.R_alloc | apply Kd.R_drewN | apply Kd.R_drew)); exact Kd.R_mono aV.out (fun _ hk => by first | exact hk.1.1 | exact hk.1 | exact hk)⟩, ⟨pR aK.out⟩, ⟨by (with_reducible repeat (first | apply Kd.R_alloc | apply Kd.R_drewN | apply Kd.R_drew)); exact Kd.R_mono eJ.out (fun _ hk => by first | exact hk.1.1 | exact hk.1 | exact hk)⟩, ⟨by (with_reducible repeat (first | apply Kd.R_alloc | apply Kd.R_drewN | apply Kd.R_drew)); exact Kd.R_mono oS.out (fun _ hk => by first | exact hk.1.1.1.1 | exact hk.1 | exact hk)⟩, ⟨pR aC.out⟩, ⟨by (with_reducible repeat (first | apply Kd.R_alloc | apply Kd.R_drewN | apply Kd.R_drew)); exact Kd.R_mono aD.out (fun _ hk => by first | exact hk.1.1 | exact hk.1 | exact hk)⟩, ⟨pB aJ.out⟩, ⟨pB aH.out⟩, ⟨pB aI.out⟩, ⟨pE HB⟩⟩
      case round =>
       as_aux_lemma =>
       clear H'
       try clear c1
       try clear c2
       try clear p2
       try clear c3
       try clear c4
       try clear c5
       try clear c6
       try clear p6
       try clear c7
       try clear c8
       try clear c19
       try clear c20
       try clear c25
       try clear c26
       try clear c27
       try clear c37
       try clear c38
       try clear c45
       try clear fC
       try clear iO
       try clear c46
       try clear iP
       try clear iQ
       try clear c47
       try clear iR
       try clear iS
       try clear c48
       try clear c49
       try clear c50
       try clear iT
       try clear iU
       try clear iV
       try clear c51
       try clear iW
       try clear iX
       try clear iY
       try clear c52
       try clear iZ
       try clear jA
       try clear c53
       try clear c54
       try clear c59
       try clear c60
       try clear p64
       try clear c65
       try clear c66
       try clear kB
       try clear c80
       try clear c81
       try clear fL
       try clear fM
       try clear fN
       try clear fR
       try clear fS
       try clear fV
       try clear fW
       try clear fZ
       try clear gA
       try clear gD
       try clear gE
       try clear gH
       try clear gI
       try clear gS
       try clear gT
       try clear gN
       try clear gP
       try clear lY
       try clear lZ
       try clear fO
       try clear fP
       try clear fQ
       try clear fT
       try clear fU
       try clear fX
       try clear fY
       try clear gB
       try clear gC
       try clear gF
       try clear gG
       try clear gJ
       try clear gK
       try clear gU
       try clear gV
       try clear gQ
       try clear gR
       try clear mA
       try clear mB
       try clear p2
       try clear p6
       try clear p64
       (try clear aZ); (try clear aV); (try clear aK); (try clear bF); (try clear aW); (try clear aC); (try clear aD); (try clear aJ); (try clear aH); (try clear aI); (try clear HB)
       obtain ⟨cU, aA, rfl, rfl, HA, iG, aZ, aV, aK, bF, aW, aC, aD, aJ, aH, aI, HB⟩ := hrel
       cases gk with
       | zero => exact absurd HA.out (by simp [aA1.l1])
       | succ k3 =>
        have H := HA.out
        clear HA
        simp only [aA1.l1] at H
        by_cases c86 : aA < (bB.length : Int)
        rotate_left
        ·rw [if_neg c86] at H
         have mG : decide (aA < (bB.length : Int)) = false := decide_eq_false c86
         clear c86
         have kH := aM H
         clear H
         obtain ⟨sT, sU, oT⟩ := Kd.R_slice aW.out
         subst oT
         go_upto_region 22 with (fail)
         go_cut [246] (fun qK wc => ∃ (kq : Nat) (eS : Bool), qK = .bool eS ∧ Aside0 (aA1.j5 kq l2 (wrap64 (1 + (Int.tmod (wrap64 (a1)) 5))) bL aG dI dV aT eS aU bE bQ bS = some r) ∧ Aside0 (kq ≤ k3) ∧ Aside0 (Kd.V (Kd.int .u8) 5 wc w.heap.size (fun k_ => (P2_ k_ ∨ w.heap.size ≤ k_) ∧ k_ ≠ bT ∧ k_ ≠ bA ∧ k_ ≠ aN) (.slice A2 l2.length c2) l2) ∧ Aside0 (Kd.R (Kd.int .i64) 3 wc w.heap.size (fun k_ => (w.heap.size ≤ k_)) (.slice gX bL.length gY) bL) ∧ Aside0 (Kd.R k42 42 wc w.heap.size (fun k_ => (w.heap.size ≤ k_) ∧ k_ ≠ aN) kA aG) ∧ Aside0 (Kd.R k67 67 wc w.heap.size (fun k_ => (w.heap.size ≤ k_)) (.slice cC aU.length bU) aU) ∧ Aside0 (Kd.R (Kd.int .i64) 3 wc w.heap.size (fun k_ => (w.heap.size ≤ k_)) (.slice bX bE.length bV) bE) ∧ Aside0 (wc.heap[bT]? = some (.cells #[(.slice dZ dG.length eA), .int .u8 dP, (.slice eB dH.length eC)] 76 (0, 0))) ∧ Aside0 (wc.heap[bA]? = some (.cells #[(.slice cC aU.length bU), (.slice bX bE.length bV)] 25 (0, 0))) ∧ Aside0 (wc.heap[aN]? = some (.cells #[.int .i64 bQ, .int .i64 bS] 42 (0, 0))) ∧ Aside0 (Below w.heap.size w wc))
         case first =>
          have H := kH.out
          clear kH
          by_cases c128 : cU < bQ
          ·rw [if_pos c128] at H
           have eX : decide (cU < bQ) = true := decide_eq_true c128
           clear c128
           (first | rw [eX] | (simp only [i64_w, i32_w]; rw [eX]) | skip)
           exact (aA1.dead_j5 _ _ _ _ _ _ _ _ _ _ _ _ _ H HRT.out).elim
          rw [if_neg c128] at H
          have eX : decide (cU < bQ) = false := decide_eq_false c128
          clear c128
          (first | rw [eX] | (simp only [i64_w, i32_w]; rw [eX]) | skip)
          by_cases c129 : cU > bS
          ·rw [if_pos c129] at H
           have kI : decide (bS < cU) = true := decide_eq_true c129
           clear c129
           exact (aA1.dead_j5 _ _ _ _ _ _ _ _ _ _ _ _ _ H HRT.out).elim
          rw [if_neg c129] at H
          have kI : decide (bS < cU) = false := decide_eq_false c129
          clear c129
          by_cases c130 : aT = 1
          rotate_left
          ·rw [if_neg c130] at H
           have kJ : (aT == 1) = false := beq_eq_false_iff_ne.mpr c130
           have kK : (aT != 1) = true := bne_iff_ne.mpr c130
           by_cases c139 : aT = 2
           rotate_left
           ·rw [if_neg c139] at H
            have kL : (aT == 2) = false := beq_eq_false_iff_ne.mpr c139
            have kM : (aT != 2) = true := bne_iff_ne.mpr c139
            have H' := aM H
            clear H
            have qL := dR.out
            have qM := dQ.out
            have qN := cT.out
            have qO := cS.out
            obtain ⟨kN, kO, kP, kQ⟩ := cf2 aI
            go_wp2
            go_meet
            case rel => exact ⟨_, (false), (by first | rfl | (simp; done) | (simp [*]; done)), H', ⟨by have := eN.out; have := iE.out; have := iG.out; first | omega | exact Nat.le_refl _⟩, ⟨pV aZ.out⟩, ⟨pR aV.out⟩, ⟨pR aK.out⟩, ⟨pR aC.out⟩, ⟨pR aD.out⟩, ⟨pB aJ.out⟩, ⟨pB aH.out⟩, ⟨pB aI.out⟩, ⟨pE HB⟩⟩
           rw [if_pos c139] at H
           have kL : (aT == 2) = true := beq_iff_eq.mpr c139
           have kM : (aT != 2) = false := bne_eq_false_iff_eq.mpr c139
           clear c139
           have H' := aM H
           clear H
           have qP := dR.out
           have qQ := dQ.out
           have qR := cT.out
           have qS := cS.out
           obtain ⟨kR, kS, kT, kU⟩ := cf2 aI
           go_wp2
           go_meet
           case rel => exact ⟨_, ((cU != bS)), (by first | rfl | (simp; done) | (simp [*]; done)), H', ⟨by have := eN.out; have := iE.out; have := iG.out; first | omega | exact Nat.le_refl _⟩, ⟨pV aZ.out⟩, ⟨pR aV.out⟩, ⟨pR aK.out⟩, ⟨pR aC.out⟩, ⟨pR aD.out⟩, ⟨pB aJ.out⟩, ⟨pB aH.out⟩, ⟨pB aI.out⟩, ⟨pE HB⟩⟩
          rw [if_pos c130] at H
          have kJ : (aT == 1) = true := beq_iff_eq.mpr c130
          have kK : (aT != 1) = false := bne_eq_false_iff_eq.mpr c130
          clear c130
          by_cases c131 : cU = bQ
          rotate_left
          ·rw [if_neg c131] at H
           have kV : (cU == bQ) = false := beq_eq_false_iff_ne.mpr c131
           have kW : (cU != bQ) = true := bne_iff_ne.mpr c131
           exact (aA1.dead_j5 _ _ _ _ _ _ _ _ _ _ _ _ _ H HRT.out).elim
          rw [if_pos c131] at H
          have kV : (cU == bQ) = true := beq_iff_eq.mpr c131
          have kW : (cU != bQ) = false := bne_eq_false_iff_eq.mpr c131
          clear c131
          by_cases c132 : aT = 2
          rotate_left
          ·rw [if_neg c132] at H
           have kX : (aT == 2) = false := beq_eq_false_iff_ne.mpr c132
           have kY : (aT != 2) = true := bne_iff_ne.mpr c132
           have H' := aM H
           clear H
           have qT := dR.out
           have qU := dQ.out
           have qV := cT.out
           have qW := cS.out
           obtain ⟨kZ, lA, lB, lC⟩ := cf2 aI
           go_wp2
           go_meet
           case rel => exact ⟨_, (false), (by first | rfl | (simp; done) | (simp [*]; done)), H', ⟨by have := eN.out; have := iE.out; have := iG.out; first | omega | exact Nat.le_refl _⟩, ⟨pV aZ.out⟩, ⟨pR aV.out⟩, ⟨pR aK.out⟩, ⟨pR aC.out⟩, ⟨pR aD.out⟩, ⟨pB aJ.out⟩, ⟨pB aH.out⟩, ⟨pB aI.out⟩, ⟨pE HB⟩⟩
          rw [if_pos c132] at H
          have kX : (aT == 2) = true := beq_iff_eq.mpr c132
          have kY : (aT != 2) = false := bne_eq_false_iff_eq.mpr c132
          clear c132
          have H' := aM H
          clear H
          have qX := dR.out
          have qY := dQ.out
          have qZ := cT.out
          have rA := cS.out
          obtain ⟨lD, lE, lF, lG⟩ := cf2 aI
          go_wp2
          go_meet
          case rel => exact ⟨_, ((cU != bS)), (by first | rfl | (simp; done) | (simp [*]; done)), H', ⟨by have := eN.out; have := iE.out; have := iG.out; first | omega | exact Nat.le_refl _⟩, ⟨pV aZ.out⟩, ⟨pR aV.out⟩, ⟨pR aK.out⟩, ⟨pR aC.out⟩, ⟨pR aD.out⟩, ⟨pB aJ.out⟩, ⟨pB aH.out⟩, ⟨pB aI.out⟩, ⟨pE HB⟩⟩
         case rest =>
          as_aux_lemma =>
          clear kH
          try clear c1
          try clear p1
          try clear q1
          try clear hx1
          try clear c2
          try clear p2
          try clear p6
          try clear c8
          try clear c11
          try clear c12
          try clear c13
          try clear c14
          try clear p17
          try clear q17
          try clear hx17
          try clear p64
          try clear c86
          try clear mG
          try clear c87
          try clear c88
          try clear c112
          try clear c113
          try clear c114
          try clear c118
          try clear c120
          try clear iH
          try clear iI
          try clear c121
          try clear iJ
          try clear c125
          try clear c128
          try clear eX
          try clear c129
          try clear kI
          try clear c130
          try clear kJ
          try clear kK
          try clear c131
          try clear kV
          try clear kW
          try clear c132
          try clear kX
          try clear kY
          try clear c133
          try clear c134
          try clear c136
          try clear c137
          try clear c139
          try clear kL
          try clear kM
          try clear c140
          try clear c141
          try clear c143
          try clear c144
          try clear lD
          try clear lE
          try clear kZ
          try clear lA
          try clear kR
          try clear kS
          try clear kN
          try clear kO
          try clear lF
          try clear lG
          try clear lB
          try clear lC
          try clear kT
          try clear kU
          try clear kP
          try clear kQ
          try clear cX
          try clear cY
          try clear cZ
          try clear dA
          try clear dB
          try clear p1
          try clear p17
          try clear eY
          try clear eZ
          try clear p2
          try clear q1
          try clear q17
          try clear fA
          try clear fB
          (try clear aZ); (try clear aV); (try clear aK); (try clear aC); (try clear aD); (try clear aJ); (try clear aH); (try clear aI); (try clear HB)
          obtain ⟨kq, eS, rfl, HA, mH, aZ, aV, aK, aC, aD, aJ, aH, aI, HB⟩ := hcut
          cases kq with
          | zero => exact absurd HA.out (by simp [aA1.j5])
          | succ kj125 =>
           have H := HA.out
           clear HA
           simp only [aA1.j5] at H
           by_cases c146 : eS = true
           ·subst c146
            rw [if_pos rfl] at H
            exact absurd ((Option.some.inj H).trans HRT.out) (by simp)
           replace c146 := Bool.eq_false_iff.mpr c146
           subst c146
           rw [if_neg (show ¬ (false = true) by decide)] at H
           have H' := aM H
           clear H
           go_wp2
           go_roundg kj125
           case measure => have := eN.out; have := iE.out; have := iG.out; have := mH.out; omega
           case rel => exact ⟨(wrap64 (aT + 1)), (by first | rfl | (simp; done) | (simp [*]; done)), H', ⟨by have := eN.out; have := iE.out; have := iG.out; have := mH.out; omega⟩, ⟨pV aZ.out⟩, ⟨pR aV.out⟩, ⟨pR aK.out⟩, ⟨pR aC.out⟩, ⟨pR aD.out⟩, ⟨pB aJ.out⟩, ⟨pB aH.out⟩, ⟨pB aI.out⟩, ⟨pE HB⟩⟩
        rw [if_pos c86] at H
        have mG : decide (aA < (bB.length : Int)) = true := decide_eq_true c86
        clear c86
        by_cases c87 : 0 ≤ aA
        rotate_left
        ·rw [if_neg c87] at H
         exact absurd H (by simp)
        rw [if_pos c87] at H
        have sV : decide (0 ≤ aA) = true := decide_eq_true c87
        clear c87
        by_cases c88 : aA < (aG.length : Int)
        rotate_left
        ·rw [if_neg c88] at H
         exact absurd H (by simp)
        rw [if_pos c88] at H
        have sW : decide (aA < (aG.length : Int)) = true := decide_eq_true c88
        clear c88
        have mY := aM H
        clear H
        obtain ⟨lH, jQ, rB⟩ := Kd.R_slice aW.out
        subst rB
        obtain ⟨uL, jR, rC⟩ := Kd.R_slice aK.out
        subst rC
        have mZ : 0 ≤ (aA : Int) := dT
        have nA : aA < (aG.length : Int) := dT
        obtain ⟨fK, rD, pD, pG⟩ := at_T42 (Kd.R_reads' aK.out).2.2 aA mZ nA
        cases rD
        replace mZ := eq_true mZ
        replace nA := eq_true nA
        go_upto_region 17 with (first | ((with_reducible refine gate_dst (N := 23) rfl ?_); (try (refine gate_guard (by rfl) ?_; dsimp only)); refine bx 23 #[.int .i64 0, .int .i64 0] 42 ?_; intro aE hg w92 hbox hb; replace aZ := ve aZ hg hb; replace aV := rb aV hb; replace aK := aM (Kd.R_below (Kd.R_elderB (pR aK.out) aE (Nat.le_of_eq hg.symm)) hb); replace bF := rb bF hb; replace aW := rb aW hb; replace aC := rb aC hb; replace aD := rb aD hb; have aQ := hbox; have sX := gs HB hg; have sY := gs HB hg; replace HB := bs HB hb; have jS := nl aJ hg; have jT := nr aJ hg; replace aJ := bb aJ hb; have jU := nl aH hg; have jV := nr aH hg; replace aH := bb aH hb; have jW := nl aI hg; have jX := nr aI hg; replace aI := bb aI hb; clear hb hbox hg; have sZ := jT.out; have tA := jS.out; have tB := jV.out; have tC := jU.out; have tD := jX.out; have tE := jW.out; obtain ⟨_, _, _, _⟩ := cf2 aQ))
        (try simp only [Act.put, List.setIfInBounds_toArray, List.set_cons_zero, List.set_cons_succ])
        obtain ⟨RR, hRR⟩ : ∃ RR : Value → World → Prop, RR = (fun rE wc => ∃ (kq : Nat) (fD : Bool), rE = .bool fD ∧ Aside0 (aA1.j3 kq l2 (wrap64 (1 + (Int.tmod (wrap64 (a1)) 5))) bL aG dI dV aT cH bB cU aA fD aU bE bQ bS = some r) ∧ Aside0 (kq ≤ k3) ∧ Aside0 (Kd.V (Kd.int .u8) 5 wc w.heap.size (fun k_ => (P2_ k_ ∨ w.heap.size ≤ k_) ∧ k_ ≠ bT ∧ k_ ≠ bA ∧ k_ ≠ aN ∧ k_ ≠ aE) (.slice A2 l2.length c2) l2) ∧ Aside0 (Kd.R (Kd.int .i64) 3 wc w.heap.size (fun k_ => (w.heap.size ≤ k_)) (.slice gX bL.length gY) bL) ∧ Aside0 (Kd.R k42 42 wc w.heap.size (fun k_ => (w.heap.size ≤ k_) ∧ k_ ≠ aN ∧ k_ ≠ aE) (.slice (some fK) aG.length jR) aG) ∧ Aside0 (Kd.R (Kd.int .i64) 3 wc w.heap.size (fun k_ => (w.heap.size ≤ k_)) (.slice iF cH.length iB) cH) ∧ Aside0 (Kd.R (Kd.int .i64) 3 wc w.heap.size (fun k_ => (w.heap.size ≤ k_)) (.slice lH bB.length jQ) bB) ∧ Aside0 (Kd.R k67 67 wc w.heap.size (fun k_ => (w.heap.size ≤ k_)) (.slice cC aU.length bU) aU) ∧ Aside0 (Kd.R (Kd.int .i64) 3 wc w.heap.size (fun k_ => (w.heap.size ≤ k_)) (.slice bX bE.length bV) bE) ∧ Aside0 (wc.heap[bT]? = some (.cells #[(.slice dZ dG.length eA), .int .u8 dP, (.slice eB dH.length eC)] 76 (0, 0))) ∧ Aside0 (wc.heap[bA]? = some (.cells #[(.slice cC aU.length bU), (.slice bX bE.length bV)] 25 (0, 0))) ∧ Aside0 (wc.heap[aN]? = some (.cells #[.int .i64 bQ, .int .i64 bS] 42 (0, 0))) ∧ Aside0 (wc.heap[aE]? = some (.cells #[.int .i64 ((aA8 aG aA).f0), .int .i64 ((aA8 aG aA).f1)] 42 (0, 0))) ∧ Aside0 (Below w.heap.size w wc)) := ⟨_, rfl⟩
        go_cut [168] from 127 to 168 RR
        case first =>
         as_aux_lemma =>
         subst hRR
         have H := mY.out
         clear mY
         by_cases c97 : (rd bB aA) < ((aA8 aG aA).f0)
         ·rw [if_pos c97] at H
          have iC : decide ((rd bB aA) < ((aA8 aG aA).f0)) = true := decide_eq_true c97
          clear c97
          (first | rw [iC] | (simp only [i64_w, i32_w]; rw [iC]) | skip)
          exact (aA1.dead_j3 _ _ _ _ _ _ _ _ _ _ _ _ _ _ _ _ _ H HRT.out).elim
         rw [if_neg c97] at H
         have iC : decide ((rd bB aA) < ((aA8 aG aA).f0)) = false := decide_eq_false c97
         clear c97
         (first | rw [iC] | (simp only [i64_w, i32_w]; rw [iC]) | skip)
         by_cases c98 : (rd bB aA) > ((aA8 aG aA).f1)
         ·rw [if_pos c98] at H
          have oU : decide (((aA8 aG aA).f1) < (rd bB aA)) = true := decide_eq_true c98
          clear c98
          exact (aA1.dead_j3 _ _ _ _ _ _ _ _ _ _ _ _ _ _ _ _ _ H HRT.out).elim
         rw [if_neg c98] at H
         have oU : decide (((aA8 aG aA).f1) < (rd bB aA)) = false := decide_eq_false c98
         clear c98
         by_cases c99 : aT = 1
         rotate_left
         ·rw [if_neg c99] at H
          have oV : (aT == 1) = false := beq_eq_false_iff_ne.mpr c99
          have oW : (aT != 1) = true := bne_iff_ne.mpr c99
          by_cases c106 : aT = 2
          rotate_left
          ·rw [if_neg c106] at H
           have lI : (aT == 2) = false := beq_eq_false_iff_ne.mpr c106
           have lJ : (aT != 2) = true := bne_iff_ne.mpr c106
           have H' := aM H
           clear H
           try go_wp2
           have n0_ : Aside0 (Kd.V (Kd.int .u8) 5 ((w92.setCell ⟨aE, 0, none⟩ (.int .i64 ((aA8 aG aA).f0))).setCell ⟨aE, 1, none⟩ (.int .i64 ((aA8 aG aA).f1))) w.heap.size (fun k_ => (P2_ k_ ∨ w.heap.size ≤ k_) ∧ k_ ≠ bT ∧ k_ ≠ bA ∧ k_ ≠ aN ∧ k_ ≠ aE) (.slice A2 l2.length c2) l2) := ⟨by (with_reducible repeat (first | apply Kd.V_alloc | apply Kd.V_drewN | apply Kd.V_drew)); exact Kd.V_mono (Kd.V_far (p := ⟨aE, 1, none⟩) (Kd.V_far (p := ⟨aE, 0, none⟩) (Kd.V_mono aZ.out (fun k_ hk => (⟨hk, hk.2⟩ : _ ∧ k_ ≠ aE))) (fun _ hk => hk.2) (.int .i64 ((aA8 aG aA).f0))) (fun _ hk => hk.2) (.int .i64 ((aA8 aG aA).f1))) (fun _ hk => by first | exact hk.1 | simp [hk])⟩
           have n1_ : Aside0 (Kd.R (Kd.int .i64) 3 ((w92.setCell ⟨aE, 0, none⟩ (.int .i64 ((aA8 aG aA).f0))).setCell ⟨aE, 1, none⟩ (.int .i64 ((aA8 aG aA).f1))) w.heap.size (fun k_ => (w.heap.size ≤ k_)) (.slice gX bL.length gY) bL) := ⟨by (with_reducible repeat (first | apply Kd.R_alloc | apply Kd.R_drewN | apply Kd.R_drew)); exact Kd.R_mono (Kd.R_far (p := ⟨aE, 1, none⟩) (Kd.R_far (p := ⟨aE, 0, none⟩) (Kd.R_types aV.out aQ.out (by decide)) (fun _ hk => hk.2) (.int .i64 ((aA8 aG aA).f0))) (fun _ hk => hk.2) (.int .i64 ((aA8 aG aA).f1))) (fun _ hk => hk.1)⟩
           have n2_ : Aside0 (Kd.R k42 42 ((w92.setCell ⟨aE, 0, none⟩ (.int .i64 ((aA8 aG aA).f0))).setCell ⟨aE, 1, none⟩ (.int .i64 ((aA8 aG aA).f1))) w.heap.size (fun k_ => (w.heap.size ≤ k_) ∧ k_ ≠ aN ∧ k_ ≠ aE) (.slice (some fK) aG.length jR) aG) := ⟨by (with_reducible repeat (first | apply Kd.R_alloc | apply Kd.R_drewN | apply Kd.R_drew)); exact Kd.R_mono (Kd.R_far (p := ⟨aE, 1, none⟩) (Kd.R_far (p := ⟨aE, 0, none⟩) (Kd.R_mono aK.out (fun k_ hk => (⟨hk, hk.2⟩ : _ ∧ k_ ≠ aE))) (fun _ hk => hk.2) (.int .i64 ((aA8 aG aA).f0))) (fun _ hk => hk.2) (.int .i64 ((aA8 aG aA).f1))) (fun _ hk => by first | exact hk.1 | simp [hk])⟩
           have n3_ : Aside0 (Kd.R (Kd.int .i64) 3 ((w92.setCell ⟨aE, 0, none⟩ (.int .i64 ((aA8 aG aA).f0))).setCell ⟨aE, 1, none⟩ (.int .i64 ((aA8 aG aA).f1))) w.heap.size (fun k_ => (w.heap.size ≤ k_)) (.slice iF cH.length iB) cH) := ⟨by (with_reducible repeat (first | apply Kd.R_alloc | apply Kd.R_drewN | apply Kd.R_drew)); exact Kd.R_mono (Kd.R_far (p := ⟨aE, 1, none⟩) (Kd.R_far (p := ⟨aE, 0, none⟩) (Kd.R_types bF.out aQ.out (by decide)) (fun _ hk => hk.2) (.int .i64 ((aA8 aG aA).f0))) (fun _ hk => hk.2) (.int .i64 ((aA8 aG aA).f1))) (fun _ hk => hk.1)⟩
           have n4_ : Aside0 (Kd.R (Kd.int .i64) 3 ((w92.setCell ⟨aE, 0, none⟩ (.int .i64 ((aA8 aG aA).f0))).setCell ⟨aE, 1, none⟩ (.int .i64 ((aA8 aG aA).f1))) w.heap.size (fun k_ => (w.heap.size ≤ k_)) (.slice lH bB.length jQ) bB) := ⟨by (with_reducible repeat (first | apply Kd.R_alloc | apply Kd.R_drewN | apply Kd.R_drew)); exact Kd.R_mono (Kd.R_far (p := ⟨aE, 1, none⟩) (Kd.R_far (p := ⟨aE, 0, none⟩) (Kd.R_types aW.out aQ.out (by decide)) (fun _ hk => hk.2) (.int .i64 ((aA8 aG aA).f0))) (fun _ hk => hk.2) (.int .i64 ((aA8 aG aA).f1))) (fun _ hk => hk.1)⟩
           have n5_ : Aside0 (Kd.R k67 67 ((w92.setCell ⟨aE, 0, none⟩ (.int .i64 ((aA8 aG aA).f0))).setCell ⟨aE, 1, none⟩ (.int .i64 ((aA8 aG aA).f1))) w.heap.size (fun k_ => (w.heap.size ≤ k_)) (.slice cC aU.length bU) aU) := ⟨by (with_reducible repeat (first | apply Kd.R_alloc | apply Kd.R_drewN | apply Kd.R_drew)); exact Kd.R_mono (Kd.R_far (p := ⟨aE, 1, none⟩) (Kd.R_far (p := ⟨aE, 0, none⟩) (Kd.R_types aC.out aQ.out (by decide)) (fun _ hk => hk.2) (.int .i64 ((aA8 aG aA).f0))) (fun _ hk => hk.2) (.int .i64 ((aA8 aG aA).f1))) (fun _ hk => hk.1)⟩
           have n6_ : Aside0 (Kd.R (Kd.int .i64) 3 ((w92.setCell ⟨aE, 0, none⟩ (.int .i64 ((aA8 aG aA).f0))).setCell ⟨aE, 1, none⟩ (.int .i64 ((aA8 aG aA).f1))) w.heap.size (fun k_ => (w.heap.size ≤ k_)) (.slice bX bE.length bV) bE) := ⟨by (with_reducible repeat (first | apply Kd.R_alloc | apply Kd.R_drewN | apply Kd.R_drew)); exact Kd.R_mono (Kd.R_far (p := ⟨aE, 1, none⟩) (Kd.R_far (p := ⟨aE, 0, none⟩) (Kd.R_types aD.out aQ.out (by decide)) (fun _ hk => hk.2) (.int .i64 ((aA8 aG aA).f0))) (fun _ hk => hk.2) (.int .i64 ((aA8 aG aA).f1))) (fun _ hk => hk.1)⟩
           have n7_ : Aside0 (((w92.setCell ⟨aE, 0, none⟩ (.int .i64 ((aA8 aG aA).f0))).setCell ⟨aE, 1, none⟩ (.int .i64 ((aA8 aG aA).f1))).heap[bT]? = some (.cells #[.slice dZ dG.length eA, .int .u8 dP, .slice eB dH.length eC] 76 (0, 0))) := ⟨pF aJ⟩
           have n8_ : Aside0 (((w92.setCell ⟨aE, 0, none⟩ (.int .i64 ((aA8 aG aA).f0))).setCell ⟨aE, 1, none⟩ (.int .i64 ((aA8 aG aA).f1))).heap[bA]? = some (.cells #[.slice cC aU.length bU, .slice bX bE.length bV] 25 (0, 0))) := ⟨pF aH⟩
           have n9_ : Aside0 (((w92.setCell ⟨aE, 0, none⟩ (.int .i64 ((aA8 aG aA).f0))).setCell ⟨aE, 1, none⟩ (.int .i64 ((aA8 aG aA).f1))).heap[aN]? = some (.cells #[.int .i64 bQ, .int .i64 bS] 42 (0, 0))) := ⟨pF aI⟩
           have n10_ : Aside0 (((w92.setCell ⟨aE, 0, none⟩ (.int .i64 ((aA8 aG aA).f0))).setCell ⟨aE, 1, none⟩ (.int .i64 ((aA8 aG aA).f1))).heap[aE]? = some (.cells #[.int .i64 ((aA8 aG aA).f0), .int .i64 ((aA8 aG aA).f1)] 42 (0, 0))) := ⟨by refine pB ?_; refine blk_put (cs := #[.int .i64 ((aA8 aG aA).f0), .int .i64 0]) ?_ 1 _ rfl; refine pB ?_; refine blk_put (cs := #[.int .i64 0, .int .i64 0]) ?_ 0 _ rfl; exact pB aQ.out⟩
           have n11_ : Aside0 (Below w.heap.size w ((w92.setCell ⟨aE, 0, none⟩ (.int .i64 ((aA8 aG aA).f0))).setCell ⟨aE, 1, none⟩ (.int .i64 ((aA8 aG aA).f1)))) := ⟨pE HB⟩
           (try clear aZ)
           (try clear aV)
           (try clear aK)
           (try clear bF)
           (try clear aW)
           (try clear aC)
           (try clear aD)
           (try clear aJ)
           (try clear aH)
           (try clear aI)
           (try clear aQ)
           (try clear HB)
           generalize ((w92.setCell ⟨aE, 0, none⟩ (.int .i64 ((aA8 aG aA).f0))).setCell ⟨aE, 1, none⟩ (.int .i64 ((aA8 aG aA).f1))) = w109 at n0_ n1_ n2_ n3_ n4_ n5_ n6_ n7_ n8_ n9_ n10_ n11_ ⊢
           have aZ := n0_
           have aV := n1_
           have aK := n2_
           have bF := n3_
           have aW := n4_
           have aC := n5_
           have aD := n6_
           have aJ := n7_
           have aH := n8_
           have aI := n9_
           have aQ := n10_
           have HB := n11_
           clear n0_ n1_ n2_ n3_ n4_ n5_ n6_ n7_ n8_ n9_ n10_ n11_
           replace aZ := aM (Kd.V_drew aZ.out)
           replace aV := aM (Kd.R_drew aV.out)
           replace aK := aM (Kd.R_drew aK.out)
           replace bF := aM (Kd.R_drew bF.out)
           replace aW := aM (Kd.R_drew aW.out)
           replace aC := aM (Kd.R_drew aC.out)
           replace aD := aM (Kd.R_drew aD.out)
           replace aJ := aM (blk_drew aJ.out)
           replace aH := aM (blk_drew aH.out)
           replace aI := aM (blk_drew aI.out)
           replace aQ := aM (blk_drew aQ.out)
           replace HB := aM (below_drew1 HB.out)
           have eE : 0 ≤ (aA : Int) := dT
           have eF : aA < (bB.length : Int) := dT
           obtain ⟨cI, iK, cQ⟩ := Kd.at_int (Kd.R_reads' aW.out).2.2 aA eE eF
           cases iK
           replace eE := eq_true eE
           replace eF := eq_true eF
           have eG : 0 ≤ (aA : Int) := dT
           have eH : aA < (bB.length : Int) := dT
           obtain ⟨fE, iL, cR⟩ := Kd.at_int (Kd.R_reads' aW.out).2.2 aA eG eH
           obtain rfl : cI = fE := (by injection iL)
           replace eG := eq_true eG
           replace eH := eq_true eH
           refine start_ (n := 42) (S := fun w' => w'.cell? ⟨aE, 0, none⟩ = some (.int .i64 ((aA8 aG aA).f0)) ∧ w'.cell? ⟨aE, 1, none⟩ = some (.int .i64 ((aA8 aG aA).f1)) ∧ w'.cell? (cI.add (aA).toNat) = some (.int .i64 (rd bB aA)) ∧ w'.cell? (cI.add (aA).toNat) = some (.int .i64 (rd bB aA))) (ds := []) #[false, false, false, false, false, false, false, false, false, false, false, false, false, false, false, false, false, false, false, false, false, false, false, false, false, false, false, false, false, false, false, false, false, false, false, false, false, false, false, false, false, false] (by kernel_rfl) rfl rfl ⟨(blk_cell aQ.out 0).trans rfl, (blk_cell aQ.out 1).trans rfl, cQ, cR⟩ (fun bC => ?_); refine with_tabW aA1.tab17 aA1.bits17 (fun HT_ HW_ => ?_)
           generalize w109.drew = w110 at aZ aV aK bF aW aC aD aJ aH aI aQ HB cQ cR bC ⊢
           refine pu 0 127 ?_
           refine pu 1 128 ?_
           refine pu 2 129 ?_
           refine pu 4 131 ?_
           refine tk 3 130 bC ?_
           refine tk 5 132 bC ?_
           refine pu 6 133 ?_
           refine pu 7 134 ?_
           refine pu 8 135 ?_
           refine pu 9 136 ?_
           refine pu 10 137 ?_
           refine pu 12 139 ?_
           refine tk 11 138 bC ?_
           refine tk 13 140 bC ?_
           refine pu 14 141 ?_
           refine pu 15 142 ?_
           refine pu 16 143 ?_
           refine pu 17 144 ?_
           refine pu 18 145 ?_
           refine pu 19 146 ?_
           refine pd 20 147 ?_
           refine pd 21 148 ?_
           refine pd 22 149 ?_
           refine pd 23 150 ?_
           refine pd 24 151 ?_
           refine pd 25 152 ?_
           refine pd 26 153 ?_
           refine pu 27 154 ?_
           refine pu 28 155 ?_
           refine pu 29 156 ?_
           refine pu 30 157 ?_
           refine pu 31 158 ?_
           refine pu 32 159 ?_
           refine pd 33 160 ?_
           refine pd 34 161 ?_
           refine pd 35 162 ?_
           refine pd 36 163 ?_
           refine pd 37 164 ?_
           refine pd 38 165 ?_
           refine pd 39 166 ?_
           refine pu 40 167 ?_
           refine pu 41 168 ?_
           refine done_ (done_of HT_.out (by kernel_rfl)) ?_
           try go_wp2
           go_meet
           case rel => exact ⟨_, (false), (by first | rfl | (simp; done) | (simp [*]; done)), H', ⟨by have := eN.out; have := iE.out; have := iG.out; first | omega | exact Nat.le_refl _⟩, ⟨pV aZ.out⟩, ⟨pR aV.out⟩, ⟨pR aK.out⟩, ⟨pR bF.out⟩, ⟨pR aW.out⟩, ⟨pR aC.out⟩, ⟨pR aD.out⟩, ⟨pB aJ.out⟩, ⟨pB aH.out⟩, ⟨pB aI.out⟩, ⟨pB aQ.out⟩, ⟨pE HB⟩⟩
          rw [if_pos c106] at H
          have lI : (aT == 2) = true := beq_iff_eq.mpr c106
          have lJ : (aT != 2) = false := bne_eq_false_iff_eq.mpr c106
          clear c106
          have H' := aM H
          clear H
          try go_wp2
          have n0_ : Aside0 (Kd.V (Kd.int .u8) 5 ((w92.setCell ⟨aE, 0, none⟩ (.int .i64 ((aA8 aG aA).f0))).setCell ⟨aE, 1, none⟩ (.int .i64 ((aA8 aG aA).f1))) w.heap.size (fun k_ => (P2_ k_ ∨ w.heap.size ≤ k_) ∧ k_ ≠ bT ∧ k_ ≠ bA ∧ k_ ≠ aN ∧ k_ ≠ aE) (.slice A2 l2.length c2) l2) := ⟨by (with_reducible repeat (first | apply Kd.V_alloc | apply Kd.V_drewN | apply Kd.V_drew)); exact Kd.V_mono (Kd.V_far (p := ⟨aE, 1, none⟩) (Kd.V_far (p := ⟨aE, 0, none⟩) (Kd.V_mono aZ.out (fun k_ hk => (⟨hk, hk.2⟩ : _ ∧ k_ ≠ aE))) (fun _ hk => hk.2) (.int .i64 ((aA8 aG aA).f0))) (fun _ hk => hk.2) (.int .i64 ((aA8 aG aA).f1))) (fun _ hk => by first | exact hk.1 | simp [hk])⟩
          have n1_ : Aside0 (Kd.R (Kd.int .i64) 3 ((w92.setCell ⟨aE, 0, none⟩ (.int .i64 ((aA8 aG aA).f0))).setCell ⟨aE, 1, none⟩ (.int .i64 ((aA8 aG aA).f1))) w.heap.size (fun k_ => (w.heap.size ≤ k_)) (.slice gX bL.length gY) bL) := ⟨by (with_reducible repeat (first | apply Kd.R_alloc | apply Kd.R_drewN | apply Kd.R_drew)); exact Kd.R_mono (Kd.R_far (p := ⟨aE, 1, none⟩) (Kd.R_far (p := ⟨aE, 0, none⟩) (Kd.R_types aV.out aQ.out (by decide)) (fun _ hk => hk.2) (.int .i64 ((aA8 aG aA).f0))) (fun _ hk => hk.2) (.int .i64 ((aA8 aG aA).f1))) (fun _ hk => hk.1)⟩
          have n2_ : Aside0 (Kd.R k42 42 ((w92.setCell ⟨aE, 0, none⟩ (.int .i64 ((aA8 aG aA).f0))).setCell ⟨aE, 1, none⟩ (.int .i64 ((aA8 aG aA).f1))) w.heap.size (fun k_ => (w.heap.size ≤ k_) ∧ k_ ≠ aN ∧ k_ ≠ aE) (.slice (some fK) aG.length jR) aG) := ⟨by (with_reducible repeat (first | apply Kd.R_alloc | apply Kd.R_drewN | apply Kd.R_drew)); exact Kd.R_mono (Kd.R_far (p := ⟨aE, 1, none⟩) (Kd.R_far (p := ⟨aE, 0, none⟩) (Kd.R_mono aK.out (fun k_ hk => (⟨hk, hk.2⟩ : _ ∧ k_ ≠ aE))) (fun _ hk => hk.2) (.int .i64 ((aA8 aG aA).f0))) (fun _ hk => hk.2) (.int .i64 ((aA8 aG aA).f1))) (fun _ hk => by first | exact hk.1 | simp [hk])⟩
          have n3_ : Aside0 (Kd.R (Kd.int .i64) 3 ((w92.setCell ⟨aE, 0, none⟩ (.int .i64 ((aA8 aG aA).f0))).setCell ⟨aE, 1, none⟩ (.int .i64 ((aA8 aG aA).f1))) w.heap.size (fun k_ => (w.heap.size ≤ k_)) (.slice iF cH.length iB) cH) := ⟨by (with_reducible repeat (first | apply Kd.R_alloc | apply Kd.R_drewN | apply Kd.R_drew)); exact Kd.R_mono (Kd.R_far (p := ⟨aE, 1, none⟩) (Kd.R_far (p := ⟨aE, 0, none⟩) (Kd.R_types bF.out aQ.out (by decide)) (fun _ hk => hk.2) (.int .i64 ((aA8 aG aA).f0))) (fun _ hk => hk.2) (.int .i64 ((aA8 aG aA).f1))) (fun _ hk => hk.1)⟩
          have n4_ : Aside0 (Kd.R (Kd.int .i64) 3 ((w92.setCell ⟨aE, 0, none⟩ (.int .i64 ((aA8 aG aA).f0))).setCell ⟨aE, 1, none⟩ (.int .i64 ((aA8 aG aA).f1))) w.heap.size (fun k_ => (w.heap.size ≤ k_)) (.slice lH bB.length jQ) bB) := ⟨by (with_reducible repeat (first | apply Kd.R_alloc | apply Kd.R_drewN | apply Kd.R_drew)); exact Kd.R_mono (Kd.R_far (p := ⟨aE, 1, none⟩) (Kd.R_far (p := ⟨aE, 0, none⟩) (Kd.R_types aW.out aQ.out (by decide)) (fun _ hk => hk.2) (.int .i64 ((aA8 aG aA).f0))) (fun _ hk => hk.2) (.int .i64 ((aA8 aG aA).f1))) (fun _ hk => hk.1)⟩
          have n5_ : Aside0 (Kd.R k67 67 ((w92.setCell ⟨aE, 0, none⟩ (.int .i64 ((aA8 aG aA).f0))).setCell ⟨aE, 1, none⟩ (.int .i64 ((aA8 aG aA).f1))) w.heap.size (fun k_ => (w.heap.size ≤ k_)) (.slice cC aU.length bU) aU) := ⟨by (with_reducible repeat (first | apply Kd.R_alloc | apply Kd.R_drewN | apply Kd.R_drew)); exact Kd.R_mono (Kd.R_far (p := ⟨aE, 1, none⟩) (Kd.R_far (p := ⟨aE, 0, none⟩) (Kd.R_types aC.out aQ.out (by decide)) (fun _ hk => hk.2) (.int .i64 ((aA8 aG aA).f0))) (fun _ hk => hk.2) (.int .i64 ((aA8 aG aA).f1))) (fun _ hk => hk.1)⟩
          have n6_ : Aside0 (Kd.R (Kd.int .i64) 3 ((w92.setCell ⟨aE, 0, none⟩ (.int .i64 ((aA8 aG aA).f0))).setCell ⟨aE, 1, none⟩ (.int .i64 ((aA8 aG aA).f1))) w.heap.size (fun k_ => (w.heap.size ≤ k_)) (.slice bX bE.length bV) bE) := ⟨by (with_reducible repeat (first | apply Kd.R_alloc | apply Kd.R_drewN | apply Kd.R_drew)); exact Kd.R_mono (Kd.R_far (p := ⟨aE, 1, none⟩) (Kd.R_far (p := ⟨aE, 0, none⟩) (Kd.R_types aD.out aQ.out (by decide)) (fun _ hk => hk.2) (.int .i64 ((aA8 aG aA).f0))) (fun _ hk => hk.2) (.int .i64 ((aA8 aG aA).f1))) (fun _ hk => hk.1)⟩
          have n7_ : Aside0 (((w92.setCell ⟨aE, 0, none⟩ (.int .i64 ((aA8 aG aA).f0))).setCell ⟨aE, 1, none⟩ (.int .i64 ((aA8 aG aA).f1))).heap[bT]? = some (.cells #[.slice dZ dG.length eA, .int .u8 dP, .slice eB dH.length eC] 76 (0, 0))) := ⟨pF aJ⟩
          have n8_ : Aside0 (((w92.setCell ⟨aE, 0, none⟩ (.int .i64 ((aA8 aG aA).f0))).setCell ⟨aE, 1, none⟩ (.int .i64 ((aA8 aG aA).f1))).heap[bA]? = some (.cells #[.slice cC aU.length bU, .slice bX bE.length bV] 25 (0, 0))) := ⟨pF aH⟩
          have n9_ : Aside0 (((w92.setCell ⟨aE, 0, none⟩ (.int .i64 ((aA8 aG aA).f0))).setCell ⟨aE, 1, none⟩ (.int .i64 ((aA8 aG aA).f1))).heap[aN]? = some (.cells #[.int .i64 bQ, .int .i64 bS] 42 (0, 0))) := ⟨pF aI⟩
          have n10_ : Aside0 (((w92.setCell ⟨aE, 0, none⟩ (.int .i64 ((aA8 aG aA).f0))).setCell ⟨aE, 1, none⟩ (.int .i64 ((aA8 aG aA).f1))).heap[aE]? = some (.cells #[.int .i64 ((aA8 aG aA).f0), .int .i64 ((aA8 aG aA).f1)] 42 (0, 0))) := ⟨by refine pB ?_; refine blk_put (cs := #[.int .i64 ((aA8 aG aA).f0), .int .i64 0]) ?_ 1 _ rfl; refine pB ?_; refine blk_put (cs := #[.int .i64 0, .int .i64 0]) ?_ 0 _ rfl; exact pB aQ.out⟩
          have n11_ : Aside0 (Below w.heap.size w ((w92.setCell ⟨aE, 0, none⟩ (.int .i64 ((aA8 aG aA).f0))).setCell ⟨aE, 1, none⟩ (.int .i64 ((aA8 aG aA).f1)))) := ⟨pE HB⟩
          (try clear aZ)
          (try clear aV)
          (try clear aK)
          (try clear bF)
          (try clear aW)
          (try clear aC)
          (try clear aD)
          (try clear aJ)
          (try clear aH)
          (try clear aI)
          (try clear aQ)
          (try clear HB)
          generalize ((w92.setCell ⟨aE, 0, none⟩ (.int .i64 ((aA8 aG aA).f0))).setCell ⟨aE, 1, none⟩ (.int .i64 ((aA8 aG aA).f1))) = w107 at n0_ n1_ n2_ n3_ n4_ n5_ n6_ n7_ n8_ n9_ n10_ n11_ ⊢
          have aZ := n0_
          have aV := n1_
          have aK := n2_
          have bF := n3_
          have aW := n4_
          have aC := n5_
          have aD := n6_
          have aJ := n7_
          have aH := n8_
          have aI := n9_
          have aQ := n10_
          have HB := n11_
          clear n0_ n1_ n2_ n3_ n4_ n5_ n6_ n7_ n8_ n9_ n10_ n11_
          replace aZ := aM (Kd.V_drew aZ.out)
          replace aV := aM (Kd.R_drew aV.out)
          replace aK := aM (Kd.R_drew aK.out)
          replace bF := aM (Kd.R_drew bF.out)
          replace aW := aM (Kd.R_drew aW.out)
          replace aC := aM (Kd.R_drew aC.out)
          replace aD := aM (Kd.R_drew aD.out)
          replace aJ := aM (blk_drew aJ.out)
          replace aH := aM (blk_drew aH.out)
          replace aI := aM (blk_drew aI.out)
          replace aQ := aM (blk_drew aQ.out)
          replace HB := aM (below_drew1 HB.out)
          have eE : 0 ≤ (aA : Int) := dT
          have eF : aA < (bB.length : Int) := dT
          obtain ⟨cI, iK, cQ⟩ := Kd.at_int (Kd.R_reads' aW.out).2.2 aA eE eF
          cases iK
          replace eE := eq_true eE
          replace eF := eq_true eF
          have eG : 0 ≤ (aA : Int) := dT
          have eH : aA < (bB.length : Int) := dT
          obtain ⟨fE, iL, cR⟩ := Kd.at_int (Kd.R_reads' aW.out).2.2 aA eG eH
          obtain rfl : cI = fE := (by injection iL)
          replace eG := eq_true eG
          replace eH := eq_true eH
          have nB : 0 ≤ (aA : Int) := dT
          have nC : aA < (bB.length : Int) := dT
          obtain ⟨oX, rF, jC⟩ := Kd.at_int (Kd.R_reads' aW.out).2.2 aA nB nC
          obtain rfl : cI = oX := (by injection rF)
          replace nB := eq_true nB
          replace nC := eq_true nC
          refine start_ (n := 42) (S := fun w' => w'.cell? ⟨aE, 0, none⟩ = some (.int .i64 ((aA8 aG aA).f0)) ∧ w'.cell? ⟨aE, 1, none⟩ = some (.int .i64 ((aA8 aG aA).f1)) ∧ w'.cell? (cI.add (aA).toNat) = some (.int .i64 (rd bB aA)) ∧ w'.cell? (cI.add (aA).toNat) = some (.int .i64 (rd bB aA)) ∧ w'.cell? (cI.add (aA).toNat) = some (.int .i64 (rd bB aA))) (ds := []) #[false, false, false, false, false, false, false, false, false, false, false, false, false, false, false, false, false, false, false, false, false, false, false, false, false, false, false, false, false, false, false, false, false, false, false, false, false, false, false, false, false, false] (by kernel_rfl) rfl rfl ⟨(blk_cell aQ.out 0).trans rfl, (blk_cell aQ.out 1).trans rfl, cQ, cR, jC⟩ (fun bC => ?_); refine with_tabW aA1.tab17 aA1.bits17 (fun HT_ HW_ => ?_)
          generalize w107.drew = w108 at aZ aV aK bF aW aC aD aJ aH aI aQ HB cQ cR jC bC ⊢
          refine pu 0 127 ?_
          refine pu 1 128 ?_
          refine pu 2 129 ?_
          refine pu 4 131 ?_
          refine tk 3 130 bC ?_
          refine tk 5 132 bC ?_
          refine pu 6 133 ?_
          refine pu 7 134 ?_
          refine pu 8 135 ?_
          refine pu 9 136 ?_
          refine pu 10 137 ?_
          refine pu 12 139 ?_
          refine tk 11 138 bC ?_
          refine tk 13 140 bC ?_
          refine pu 14 141 ?_
          refine pu 15 142 ?_
          refine pu 16 143 ?_
          refine pu 17 144 ?_
          refine pu 18 145 ?_
          refine pu 19 146 ?_
          refine pd 20 147 ?_
          refine pd 21 148 ?_
          refine pd 22 149 ?_
          refine pd 23 150 ?_
          refine pd 24 151 ?_
          refine pd 25 152 ?_
          refine pd 26 153 ?_
          refine pu 27 154 ?_
          refine pu 28 155 ?_
          refine pu 29 156 ?_
          refine pu 30 157 ?_
          refine pu 31 158 ?_
          refine pu 32 159 ?_
          refine pu 33 160 ?_
          refine pu 34 161 ?_
          refine pu 35 162 ?_
          refine pu 37 164 ?_
          refine tk 36 163 bC ?_
          refine tk 38 165 bC ?_
          refine pu 39 166 ?_
          refine pu 40 167 ?_
          refine pu 41 168 ?_
          refine done_ (done_of HT_.out (by kernel_rfl)) ?_
          try go_wp2
          go_meet
          case rel => exact ⟨_, (((rd bB aA) != ((aA8 aG aA).f1))), (by first | rfl | (simp; done) | (simp [*]; done)), H', ⟨by have := eN.out; have := iE.out; have := iG.out; first | omega | exact Nat.le_refl _⟩, ⟨pV aZ.out⟩, ⟨pR aV.out⟩, ⟨pR aK.out⟩, ⟨pR bF.out⟩, ⟨pR aW.out⟩, ⟨pR aC.out⟩, ⟨pR aD.out⟩, ⟨pB aJ.out⟩, ⟨pB aH.out⟩, ⟨pB aI.out⟩, ⟨pB aQ.out⟩, ⟨pE HB⟩⟩
         rw [if_pos c99] at H
         have oV : (aT == 1) = true := beq_iff_eq.mpr c99
         have oW : (aT != 1) = false := bne_eq_false_iff_eq.mpr c99
         clear c99
         by_cases c100 : (rd bB aA) = ((aA8 aG aA).f0)
         rotate_left
         ·rw [if_neg c100] at H
          have nD : ((rd bB aA) == ((aA8 aG aA).f0)) = false := beq_eq_false_iff_ne.mpr c100
          have nE : ((rd bB aA) != ((aA8 aG aA).f0)) = true := bne_iff_ne.mpr c100
          exact (aA1.dead_j3 _ _ _ _ _ _ _ _ _ _ _ _ _ _ _ _ _ H HRT.out).elim
         rw [if_pos c100] at H
         have nD : ((rd bB aA) == ((aA8 aG aA).f0)) = true := beq_iff_eq.mpr c100
         have nE : ((rd bB aA) != ((aA8 aG aA).f0)) = false := bne_eq_false_iff_eq.mpr c100
         clear c100
         by_cases c101 : aT = 2
         rotate_left
         ·rw [if_neg c101] at H
          have nG : (aT == 2) = false := beq_eq_false_iff_ne.mpr c101
          have nH : (aT != 2) = true := bne_iff_ne.mpr c101
          have H' := aM H
          clear H
          try go_wp2
          have n0_ : Aside0 (Kd.V (Kd.int .u8) 5 ((w92.setCell ⟨aE, 0, none⟩ (.int .i64 ((aA8 aG aA).f0))).setCell ⟨aE, 1, none⟩ (.int .i64 ((aA8 aG aA).f1))) w.heap.size (fun k_ => (P2_ k_ ∨ w.heap.size ≤ k_) ∧ k_ ≠ bT ∧ k_ ≠ bA ∧ k_ ≠ aN ∧ k_ ≠ aE) (.slice A2 l2.length c2) l2) := ⟨by (with_reducible repeat (first | apply Kd.V_alloc | apply Kd.V_drewN | apply Kd.V_drew)); exact Kd.V_mono (Kd.V_far (p := ⟨aE, 1, none⟩) (Kd.V_far (p := ⟨aE, 0, none⟩) (Kd.V_mono aZ.out (fun k_ hk => (⟨hk, hk.2⟩ : _ ∧ k_ ≠ aE))) (fun _ hk => hk.2) (.int .i64 ((aA8 aG aA).f0))) (fun _ hk => hk.2) (.int .i64 ((aA8 aG aA).f1))) (fun _ hk => by first | exact hk.1 | simp [hk])⟩
          have n1_ : Aside0 (Kd.R (Kd.int .i64) 3 ((w92.setCell ⟨aE, 0, none⟩ (.int .i64 ((aA8 aG aA).f0))).setCell ⟨aE, 1, none⟩ (.int .i64 ((aA8 aG aA).f1))) w.heap.size (fun k_ => (w.heap.size ≤ k_)) (.slice gX bL.length gY) bL) := ⟨by (with_reducible repeat (first | apply Kd.R_alloc | apply Kd.R_drewN | apply Kd.R_drew)); exact Kd.R_mono (Kd.R_far (p := ⟨aE, 1, none⟩) (Kd.R_far (p := ⟨aE, 0, none⟩) (Kd.R_types aV.out aQ.out (by decide)) (fun _ hk => hk.2) (.int .i64 ((aA8 aG aA).f0))) (fun _ hk => hk.2) (.int .i64 ((aA8 aG aA).f1))) (fun _ hk => hk.1)⟩
          have n2_ : Aside0 (Kd.R k42 42 ((w92.setCell ⟨aE, 0, none⟩ (.int .i64 ((aA8 aG aA).f0))).setCell ⟨aE, 1, none⟩ (.int .i64 ((aA8 aG aA).f1))) w.heap.size (fun k_ => (w.heap.size ≤ k_) ∧ k_ ≠ aN ∧ k_ ≠ aE) (.slice (some fK) aG.length jR) aG) := ⟨by (with_reducible repeat (first | apply Kd.R_alloc | apply Kd.R_drewN | apply Kd.R_drew)); exact Kd.R_mono (Kd.R_far (p := ⟨aE, 1, none⟩) (Kd.R_far (p := ⟨aE, 0, none⟩) (Kd.R_mono aK.out (fun k_ hk => (⟨hk, hk.2⟩ : _ ∧ k_ ≠ aE))) (fun _ hk => hk.2) (.int .i64 ((aA8 aG aA).f0))) (fun _ hk => hk.2) (.int .i64 ((aA8 aG aA).f1))) (fun _ hk => by first | exact hk.1 | simp [hk])⟩
          have n3_ : Aside0 (Kd.R (Kd.int .i64) 3 ((w92.setCell ⟨aE, 0, none⟩ (.int .i64 ((aA8 aG aA).f0))).setCell ⟨aE, 1, none⟩ (.int .i64 ((aA8 aG aA).f1))) w.heap.size (fun k_ => (w.heap.size ≤ k_)) (.slice iF cH.length iB) cH) := ⟨by (with_reducible repeat (first | apply Kd.R_alloc | apply Kd.R_drewN | apply Kd.R_drew)); exact Kd.R_mono (Kd.R_far (p := ⟨aE, 1, none⟩) (Kd.R_far (p := ⟨aE, 0, none⟩) (Kd.R_types bF.out aQ.out (by decide)) (fun _ hk => hk.2) (.int .i64 ((aA8 aG aA).f0))) (fun _ hk => hk.2) (.int .i64 ((aA8 aG aA).f1))) (fun _ hk => hk.1)⟩
          have n4_ : Aside0 (Kd.R (Kd.int .i64) 3 ((w92.setCell ⟨aE, 0, none⟩ (.int .i64 ((aA8 aG aA).f0))).setCell ⟨aE, 1, none⟩ (.int .i64 ((aA8 aG aA).f1))) w.heap.size (fun k_ => (w.heap.size ≤ k_)) (.slice lH bB.length jQ) bB) := ⟨by (with_reducible repeat (first | apply Kd.R_alloc | apply Kd.R_drewN | apply Kd.R_drew)); exact Kd.R_mono (Kd.R_far (p := ⟨aE, 1, none⟩) (Kd.R_far (p := ⟨aE, 0, none⟩) (Kd.R_types aW.out aQ.out (by decide)) (fun _ hk => hk.2) (.int .i64 ((aA8 aG aA).f0))) (fun _ hk => hk.2) (.int .i64 ((aA8 aG aA).f1))) (fun _ hk => hk.1)⟩
          have n5_ : Aside0 (Kd.R k67 67 ((w92.setCell ⟨aE, 0, none⟩ (.int .i64 ((aA8 aG aA).f0))).setCell ⟨aE, 1, none⟩ (.int .i64 ((aA8 aG aA).f1))) w.heap.size (fun k_ => (w.heap.size ≤ k_)) (.slice cC aU.length bU) aU) := ⟨by (with_reducible repeat (first | apply Kd.R_alloc | apply Kd.R_drewN | apply Kd.R_drew)); exact Kd.R_mono (Kd.R_far (p := ⟨aE, 1, none⟩) (Kd.R_far (p := ⟨aE, 0, none⟩) (Kd.R_types aC.out aQ.out (by decide)) (fun _ hk => hk.2) (.int .i64 ((aA8 aG aA).f0))) (fun _ hk => hk.2) (.int .i64 ((aA8 aG aA).f1))) (fun _ hk => hk.1)⟩
          have n6_ : Aside0 (Kd.R (Kd.int .i64) 3 ((w92.setCell ⟨aE, 0, none⟩ (.int .i64 ((aA8 aG aA).f0))).setCell ⟨aE, 1, none⟩ (.int .i64 ((aA8 aG aA).f1))) w.heap.size (fun k_ => (w.heap.size ≤ k_)) (.slice bX bE.length bV) bE) := ⟨by (with_reducible repeat (first | apply Kd.R_alloc | apply Kd.R_drewN | apply Kd.R_drew)); exact Kd.R_mono (Kd.R_far (p := ⟨aE, 1, none⟩) (Kd.R_far (p := ⟨aE, 0, none⟩) (Kd.R_types aD.out aQ.out (by decide)) (fun _ hk => hk.2) (.int .i64 ((aA8 aG aA).f0))) (fun _ hk => hk.2) (.int .i64 ((aA8 aG aA).f1))) (fun _ hk => hk.1)⟩
          have n7_ : Aside0 (((w92.setCell ⟨aE, 0, none⟩ (.int .i64 ((aA8 aG aA).f0))).setCell ⟨aE, 1, none⟩ (.int .i64 ((aA8 aG aA).f1))).heap[bT]? = some (.cells #[.slice dZ dG.length eA, .int .u8 dP, .slice eB dH.length eC] 76 (0, 0))) := ⟨pF aJ⟩
          have n8_ : Aside0 (((w92.setCell ⟨aE, 0, none⟩ (.int .i64 ((aA8 aG aA).f0))).setCell ⟨aE, 1, none⟩ (.int .i64 ((aA8 aG aA).f1))).heap[bA]? = some (.cells #[.slice cC aU.length bU, .slice bX bE.length bV] 25 (0, 0))) := ⟨pF aH⟩
          have n9_ : Aside0 (((w92.setCell ⟨aE, 0, none⟩ (.int .i64 ((aA8 aG aA).f0))).setCell ⟨aE, 1, none⟩ (.int .i64 ((aA8 aG aA).f1))).heap[aN]? = some (.cells #[.int .i64 bQ, .int .i64 bS] 42 (0, 0))) := ⟨pF aI⟩
          have n10_ : Aside0 (((w92.setCell ⟨aE, 0, none⟩ (.int .i64 ((aA8 aG aA).f0))).setCell ⟨aE, 1, none⟩ (.int .i64 ((aA8 aG aA).f1))).heap[aE]? = some (.cells #[.int .i64 ((aA8 aG aA).f0), .int .i64 ((aA8 aG aA).f1)] 42 (0, 0))) := ⟨by refine pB ?_; refine blk_put (cs := #[.int .i64 ((aA8 aG aA).f0), .int .i64 0]) ?_ 1 _ rfl; refine pB ?_; refine blk_put (cs := #[.int .i64 0, .int .i64 0]) ?_ 0 _ rfl; exact pB aQ.out⟩
          have n11_ : Aside0 (Below w.heap.size w ((w92.setCell ⟨aE, 0, none⟩ (.int .i64 ((aA8 aG aA).f0))).setCell ⟨aE, 1, none⟩ (.int .i64 ((aA8 aG aA).f1)))) := ⟨pE HB⟩
          (try clear aZ)
          (try clear aV)
          (try clear aK)
          (try clear bF)
          (try clear aW)
          (try clear aC)
          (try clear aD)
          (try clear aJ)
          (try clear aH)
          (try clear aI)
          (try clear aQ)
          (try clear HB)
          generalize ((w92.setCell ⟨aE, 0, none⟩ (.int .i64 ((aA8 aG aA).f0))).setCell ⟨aE, 1, none⟩ (.int .i64 ((aA8 aG aA).f1))) = w104 at n0_ n1_ n2_ n3_ n4_ n5_ n6_ n7_ n8_ n9_ n10_ n11_ ⊢
          have aZ := n0_
          have aV := n1_
          have aK := n2_
          have bF := n3_
          have aW := n4_
          have aC := n5_
          have aD := n6_
          have aJ := n7_
          have aH := n8_
          have aI := n9_
          have aQ := n10_
          have HB := n11_
          clear n0_ n1_ n2_ n3_ n4_ n5_ n6_ n7_ n8_ n9_ n10_ n11_
          replace aZ := aM (Kd.V_drew aZ.out)
          replace aV := aM (Kd.R_drew aV.out)
          replace aK := aM (Kd.R_drew aK.out)
          replace bF := aM (Kd.R_drew bF.out)
          replace aW := aM (Kd.R_drew aW.out)
          replace aC := aM (Kd.R_drew aC.out)
          replace aD := aM (Kd.R_drew aD.out)
          replace aJ := aM (blk_drew aJ.out)
          replace aH := aM (blk_drew aH.out)
          replace aI := aM (blk_drew aI.out)
          replace aQ := aM (blk_drew aQ.out)
          replace HB := aM (below_drew1 HB.out)
          have eE : 0 ≤ (aA : Int) := dT
          have eF : aA < (bB.length : Int) := dT
          obtain ⟨cI, iK, cQ⟩ := Kd.at_int (Kd.R_reads' aW.out).2.2 aA eE eF
          cases iK
          replace eE := eq_true eE
          replace eF := eq_true eF
          have eG : 0 ≤ (aA : Int) := dT
          have eH : aA < (bB.length : Int) := dT
          obtain ⟨fE, iL, cR⟩ := Kd.at_int (Kd.R_reads' aW.out).2.2 aA eG eH
          obtain rfl : cI = fE := (by injection iL)
          replace eG := eq_true eG
          replace eH := eq_true eH
          have iM : 0 ≤ (aA : Int) := dT
          have iN : aA < (bB.length : Int) := dT
          obtain ⟨lK, nI, eU⟩ := Kd.at_int (Kd.R_reads' aW.out).2.2 aA iM iN
          obtain rfl : cI = lK := (by injection nI)
          replace iM := eq_true iM
          replace iN := eq_true iN
          refine start_ (n := 42) (S := fun w' => w'.cell? ⟨aE, 0, none⟩ = some (.int .i64 ((aA8 aG aA).f0)) ∧ w'.cell? ⟨aE, 1, none⟩ = some (.int .i64 ((aA8 aG aA).f1)) ∧ w'.cell? (cI.add (aA).toNat) = some (.int .i64 (rd bB aA)) ∧ w'.cell? (cI.add (aA).toNat) = some (.int .i64 (rd bB aA)) ∧ w'.cell? (cI.add (aA).toNat) = some (.int .i64 (rd bB aA))) (ds := []) #[false, false, false, false, false, false, false, false, false, false, false, false, false, false, false, false, false, false, false, false, false, false, false, false, false, false, false, false, false, false, false, false, false, false, false, false, false, false, false, false, false, false] (by kernel_rfl) rfl rfl ⟨(blk_cell aQ.out 0).trans rfl, (blk_cell aQ.out 1).trans rfl, cQ, cR, eU⟩ (fun bC => ?_); refine with_tabW aA1.tab17 aA1.bits17 (fun HT_ HW_ => ?_)
          generalize w104.drew = w105 at aZ aV aK bF aW aC aD aJ aH aI aQ HB cQ cR eU bC ⊢
          refine pu 0 127 ?_
          refine pu 1 128 ?_
          refine pu 2 129 ?_
          refine pu 4 131 ?_
          refine tk 3 130 bC ?_
          refine tk 5 132 bC ?_
          refine pu 6 133 ?_
          refine pu 7 134 ?_
          refine pu 8 135 ?_
          refine pu 9 136 ?_
          refine pu 10 137 ?_
          refine pu 12 139 ?_
          refine tk 11 138 bC ?_
          refine tk 13 140 bC ?_
          refine pu 14 141 ?_
          refine pu 15 142 ?_
          refine pu 16 143 ?_
          refine pu 17 144 ?_
          refine pu 18 145 ?_
          refine pu 19 146 ?_
          refine pu 20 147 ?_
          refine pu 21 148 ?_
          refine pu 22 149 ?_
          refine pu 24 151 ?_
          refine tk 23 150 bC ?_
          refine tk 25 152 bC ?_
          refine pu 26 153 ?_
          refine pu 27 154 ?_
          refine pu 28 155 ?_
          refine pu 29 156 ?_
          refine pu 30 157 ?_
          refine pu 31 158 ?_
          refine pu 32 159 ?_
          refine pd 33 160 ?_
          refine pd 34 161 ?_
          refine pd 35 162 ?_
          refine pd 36 163 ?_
          refine pd 37 164 ?_
          refine pd 38 165 ?_
          refine pd 39 166 ?_
          refine pu 40 167 ?_
          refine pu 41 168 ?_
          refine done_ (done_of HT_.out (by kernel_rfl)) ?_
          try go_wp2
          go_meet
          case rel => exact ⟨_, (false), (by first | rfl | (simp; done) | (simp [*]; done)), H', ⟨by have := eN.out; have := iE.out; have := iG.out; first | omega | exact Nat.le_refl _⟩, ⟨pV aZ.out⟩, ⟨pR aV.out⟩, ⟨pR aK.out⟩, ⟨pR bF.out⟩, ⟨pR aW.out⟩, ⟨pR aC.out⟩, ⟨pR aD.out⟩, ⟨pB aJ.out⟩, ⟨pB aH.out⟩, ⟨pB aI.out⟩, ⟨pB aQ.out⟩, ⟨pE HB⟩⟩
         rw [if_pos c101] at H
         have nG : (aT == 2) = true := beq_iff_eq.mpr c101
         have nH : (aT != 2) = false := bne_eq_false_iff_eq.mpr c101
         clear c101
         have H' := aM H
         clear H
         try go_wp2
         have n0_ : Aside0 (Kd.V (Kd.int .u8) 5 ((w92.setCell ⟨aE, 0, none⟩ (.int .i64 ((aA8 aG aA).f0))).setCell ⟨aE, 1, none⟩ (.int .i64 ((aA8 aG aA).f1))) w.heap.size (fun k_ => (P2_ k_ ∨ w.heap.size ≤ k_) ∧ k_ ≠ bT ∧ k_ ≠ bA ∧ k_ ≠ aN ∧ k_ ≠ aE) (.slice A2 l2.length c2) l2) := ⟨by (with_reducible repeat (first | apply Kd.V_alloc | apply Kd.V_drewN | apply Kd.V_drew)); exact Kd.V_mono (Kd.V_far (p := ⟨aE, 1, none⟩) (Kd.V_far (p := ⟨aE, 0, none⟩) (Kd.V_mono aZ.out (fun k_ hk => (⟨hk, hk.2⟩ : _ ∧ k_ ≠ aE))) (fun _ hk => hk.2) (.int .i64 ((aA8 aG aA).f0))) (fun _ hk => hk.2) (.int .i64 ((aA8 aG aA).f1))) (fun _ hk => by first | exact hk.1 | simp [hk])⟩
         have n1_ : Aside0 (Kd.R (Kd.int .i64) 3 ((w92.setCell ⟨aE, 0, none⟩ (.int .i64 ((aA8 aG aA).f0))).setCell ⟨aE, 1, none⟩ (.int .i64 ((aA8 aG aA).f1))) w.heap.size (fun k_ => (w.heap.size ≤ k_)) (.slice gX bL.length gY) bL) := ⟨by (with_reducible repeat (first | apply Kd.R_alloc | apply Kd.R_drewN | apply Kd.R_drew)); exact Kd.R_mono (Kd.R_far (p := ⟨aE, 1, none⟩) (Kd.R_far (p := ⟨aE, 0, none⟩) (Kd.R_types aV.out aQ.out (by decide)) (fun _ hk => hk.2) (.int .i64 ((aA8 aG aA).f0))) (fun _ hk => hk.2) (.int .i64 ((aA8 aG aA).f1))) (fun _ hk => hk.1)⟩
         have n2_ : Aside0 (Kd.R k42 42 ((w92.setCell ⟨aE, 0, none⟩ (.int .i64 ((aA8 aG aA).f0))).setCell ⟨aE, 1, none⟩ (.int .i64 ((aA8 aG aA).f1))) w.heap.size (fun k_ => (w.heap.size ≤ k_) ∧ k_ ≠ aN ∧ k_ ≠ aE) (.slice (some fK) aG.length jR) aG) := ⟨by (with_reducible repeat (first | apply Kd.R_alloc | apply Kd.R_drewN | apply Kd.R_drew)); exact Kd.R_mono (Kd.R_far (p := ⟨aE, 1, none⟩) (Kd.R_far (p := ⟨aE, 0, none⟩) (Kd.R_mono aK.out (fun k_ hk => (⟨hk, hk.2⟩ : _ ∧ k_ ≠ aE))) (fun _ hk => hk.2) (.int .i64 ((aA8 aG aA).f0))) (fun _ hk => hk.2) (.int .i64 ((aA8 aG aA).f1))) (fun _ hk => by first | exact hk.1 | simp [hk])⟩
         have n3_ : Aside0 (Kd.R (Kd.int .i64) 3 ((w92.setCell ⟨aE, 0, none⟩ (.int .i64 ((aA8 aG aA).f0))).setCell ⟨aE, 1, none⟩ (.int .i64 ((aA8 aG aA).f1))) w.heap.size (fun k_ => (w.heap.size ≤ k_)) (.slice iF cH.length iB) cH) := ⟨by (with_reducible repeat (first | apply Kd.R_alloc | apply Kd.R_drewN | apply Kd.R_drew)); exact Kd.R_mono (Kd.R_far (p := ⟨aE, 1, none⟩) (Kd.R_far (p := ⟨aE, 0, none⟩) (Kd.R_types bF.out aQ.out (by decide)) (fun _ hk => hk.2) (.int .i64 ((aA8 aG aA).f0))) (fun _ hk => hk.2) (.int .i64 ((aA8 aG aA).f1))) (fun _ hk => hk.1)⟩
         have n4_ : Aside0 (Kd.R (Kd.int .i64) 3 ((w92.setCell ⟨aE, 0, none⟩ (.int .i64 ((aA8 aG aA).f0))).setCell ⟨aE, 1, none⟩ (.int .i64 ((aA8 aG aA).f1))) w.heap.size (fun k_ => (w.heap.size ≤ k_)) (.slice lH bB.length jQ) bB) := ⟨by (with_reducible repeat (first | apply Kd.R_alloc | apply Kd.R_drewN | apply Kd.R_drew)); exact Kd.R_mono (Kd.R_far (p := ⟨aE, 1, none⟩) (Kd.R_far (p := ⟨aE, 0, none⟩) (Kd.R_types aW.out aQ.out (by decide)) (fun _ hk => hk.2) (.int .i64 ((aA8 aG aA).f0))) (fun _ hk => hk.2) (.int .i64 ((aA8 aG aA).f1))) (fun _ hk => hk.1)⟩
         have n5_ : Aside0 (Kd.R k67 67 ((w92.setCell ⟨aE, 0, none⟩ (.int .i64 ((aA8 aG aA).f0))).setCell ⟨aE, 1, none⟩ (.int .i64 ((aA8 aG aA).f1))) w.heap.size (fun k_ => (w.heap.size ≤ k_)) (.slice cC aU.length bU) aU) := ⟨by (with_reducible repeat (first | apply Kd.R_alloc | apply Kd.R_drewN | apply Kd.R_drew)); exact Kd.R_mono (Kd.R_far (p := ⟨aE, 1, none⟩) (Kd.R_far (p := ⟨aE, 0, none⟩) (Kd.R_types aC.out aQ.out (by decide)) (fun _ hk => hk.2) (.int .i64 ((aA8 aG aA).f0))) (fun _ hk => hk.2) (.int .i64 ((aA8 aG aA).f1))) (fun _ hk => hk.1)⟩
         have n6_ : Aside0 (Kd.R (Kd.int .i64) 3 ((w92.setCell ⟨aE, 0, none⟩ (.int .i64 ((aA8 aG aA).f0))).setCell ⟨aE, 1, none⟩ (.int .i64 ((aA8 aG aA).f1))) w.heap.size (fun k_ => (w.heap.size ≤ k_)) (.slice bX bE.length bV) bE) := ⟨by (with_reducible repeat (first | apply Kd.R_alloc | apply Kd.R_drewN | apply Kd.R_drew)); exact Kd.R_mono (Kd.R_far (p := ⟨aE, 1, none⟩) (Kd.R_far (p := ⟨aE, 0, none⟩) (Kd.R_types aD.out aQ.out (by decide)) (fun _ hk => hk.2) (.int .i64 ((aA8 aG aA).f0))) (fun _ hk => hk.2) (.int .i64 ((aA8 aG aA).f1))) (fun _ hk => hk.1)⟩
         have n7_ : Aside0 (((w92.setCell ⟨aE, 0, none⟩ (.int .i64 ((aA8 aG aA).f0))).setCell ⟨aE, 1, none⟩ (.int .i64 ((aA8 aG aA).f1))).heap[bT]? = some (.cells #[.slice dZ dG.length eA, .int .u8 dP, .slice eB dH.length eC] 76 (0, 0))) := ⟨pF aJ⟩
         have n8_ : Aside0 (((w92.setCell ⟨aE, 0, none⟩ (.int .i64 ((aA8 aG aA).f0))).setCell ⟨aE, 1, none⟩ (.int .i64 ((aA8 aG aA).f1))).heap[bA]? = some (.cells #[.slice cC aU.length bU, .slice bX bE.length bV] 25 (0, 0))) := ⟨pF aH⟩
         have n9_ : Aside0 (((w92.setCell ⟨aE, 0, none⟩ (.int .i64 ((aA8 aG aA).f0))).setCell ⟨aE, 1, none⟩ (.int .i64 ((aA8 aG aA).f1))).heap[aN]? = some (.cells #[.int .i64 bQ, .int .i64 bS] 42 (0, 0))) := ⟨pF aI⟩
         have n10_ : Aside0 (((w92.setCell ⟨aE, 0, none⟩ (.int .i64 ((aA8 aG aA).f0))).setCell ⟨aE, 1, none⟩ (.int .i64 ((aA8 aG aA).f1))).heap[aE]? = some (.cells #[.int .i64 ((aA8 aG aA).f0), .int .i64 ((aA8 aG aA).f1)] 42 (0, 0))) := ⟨by refine pB ?_; refine blk_put (cs := #[.int .i64 ((aA8 aG aA).f0), .int .i64 0]) ?_ 1 _ rfl; refine pB ?_; refine blk_put (cs := #[.int .i64 0, .int .i64 0]) ?_ 0 _ rfl; exact pB aQ.out⟩
         have n11_ : Aside0 (Below w.heap.size w ((w92.setCell ⟨aE, 0, none⟩ (.int .i64 ((aA8 aG aA).f0))).setCell ⟨aE, 1, none⟩ (.int .i64 ((aA8 aG aA).f1)))) := ⟨pE HB⟩
         (try clear aZ)
         (try clear aV)
         (try clear aK)
         (try clear bF)
         (try clear aW)
         (try clear aC)
         (try clear aD)
         (try clear aJ)
         (try clear aH)
         (try clear aI)
         (try clear aQ)
         (try clear HB)
         generalize ((w92.setCell ⟨aE, 0, none⟩ (.int .i64 ((aA8 aG aA).f0))).setCell ⟨aE, 1, none⟩ (.int .i64 ((aA8 aG aA).f1))) = w102 at n0_ n1_ n2_ n3_ n4_ n5_ n6_ n7_ n8_ n9_ n10_ n11_ ⊢
         have aZ := n0_
         have aV := n1_
         have aK := n2_
         have bF := n3_
         have aW := n4_
         have aC := n5_
         have aD := n6_
         have aJ := n7_
         have aH := n8_
         have aI := n9_
         have aQ := n10_
         have HB := n11_
         clear n0_ n1_ n2_ n3_ n4_ n5_ n6_ n7_ n8_ n9_ n10_ n11_
         replace aZ := aM (Kd.V_drew aZ.out)
         replace aV := aM (Kd.R_drew aV.out)
         replace aK := aM (Kd.R_drew aK.out)
         replace bF := aM (Kd.R_drew bF.out)
         replace aW := aM (Kd.R_drew aW.out)
         replace aC := aM (Kd.R_drew aC.out)
         replace aD := aM (Kd.R_drew aD.out)
         replace aJ := aM (blk_drew aJ.out)
         replace aH := aM (blk_drew aH.out)
         replace aI := aM (blk_drew aI.out)
         replace aQ := aM (blk_drew aQ.out)
         replace HB := aM (below_drew1 HB.out)
         have eE : 0 ≤ (aA : Int) := dT
         have eF : aA < (bB.length : Int) := dT
         obtain ⟨cI, iK, cQ⟩ := Kd.at_int (Kd.R_reads' aW.out).2.2 aA eE eF
         cases iK
         replace eE := eq_true eE
         replace eF := eq_true eF
         have eG : 0 ≤ (aA : Int) := dT
         have eH : aA < (bB.length : Int) := dT
         obtain ⟨fE, iL, cR⟩ := Kd.at_int (Kd.R_reads' aW.out).2.2 aA eG eH
         obtain rfl : cI = fE := (by injection iL)
         replace eG := eq_true eG
         replace eH := eq_true eH
         have iM : 0 ≤ (aA : Int) := dT
         have iN : aA < (bB.length : Int) := dT
         obtain ⟨lK, nI, eU⟩ := Kd.at_int (Kd.R_reads' aW.out).2.2 aA iM iN
         obtain rfl : cI = lK := (by injection nI)
         replace iM := eq_true iM
         replace iN := eq_true iN
         have nJ : 0 ≤ (aA : Int) := dT
         have nK : aA < (bB.length : Int) := dT
         obtain ⟨oY, rG, jD⟩ := Kd.at_int (Kd.R_reads' aW.out).2.2 aA nJ nK
         obtain rfl : cI = oY := (by injection rG)
         replace nJ := eq_true nJ
         replace nK := eq_true nK
         refine start_ (n := 42) (S := fun w' => w'.cell? ⟨aE, 0, none⟩ = some (.int .i64 ((aA8 aG aA).f0)) ∧ w'.cell? ⟨aE, 1, none⟩ = some (.int .i64 ((aA8 aG aA).f1)) ∧ w'.cell? (cI.add (aA).toNat) = some (.int .i64 (rd bB aA)) ∧ w'.cell? (cI.add (aA).toNat) = some (.int .i64 (rd bB aA)) ∧ w'.cell? (cI.add (aA).toNat) = some (.int .i64 (rd bB aA)) ∧ w'.cell? (cI.add (aA).toNat) = some (.int .i64 (rd bB aA))) (ds := []) #[false, false, false, false, false, false, false, false, false, false, false, false, false, false, false, false, false, false, false, false, false, false, false, false, false, false, false, false, false, false, false, false, false, false, false, false, false, false, false, false, false, false] (by kernel_rfl) rfl rfl ⟨(blk_cell aQ.out 0).trans rfl, (blk_cell aQ.out 1).trans rfl, cQ, cR, eU, jD⟩ (fun bC => ?_); refine with_tabW aA1.tab17 aA1.bits17 (fun HT_ HW_ => ?_)
         generalize w102.drew = w103 at aZ aV aK bF aW aC aD aJ aH aI aQ HB cQ cR eU jD bC ⊢
         refine pu 0 127 ?_
         refine pu 1 128 ?_
         refine pu 2 129 ?_
         refine pu 4 131 ?_
         refine tk 3 130 bC ?_
         refine tk 5 132 bC ?_
         refine pu 6 133 ?_
         refine pu 7 134 ?_
         refine pu 8 135 ?_
         refine pu 9 136 ?_
         refine pu 10 137 ?_
         refine pu 12 139 ?_
         refine tk 11 138 bC ?_
         refine tk 13 140 bC ?_
         refine pu 14 141 ?_
         refine pu 15 142 ?_
         refine pu 16 143 ?_
         refine pu 17 144 ?_
         refine pu 18 145 ?_
         refine pu 19 146 ?_
         refine pu 20 147 ?_
         refine pu 21 148 ?_
         refine pu 22 149 ?_
         refine pu 24 151 ?_
         refine tk 23 150 bC ?_
         refine tk 25 152 bC ?_
         refine pu 26 153 ?_
         refine pu 27 154 ?_
         refine pu 28 155 ?_
         refine pu 29 156 ?_
         refine pu 30 157 ?_
         refine pu 31 158 ?_
         refine pu 32 159 ?_
         refine pu 33 160 ?_
         refine pu 34 161 ?_
         refine pu 35 162 ?_
         refine pu 37 164 ?_
         refine tk 36 163 bC ?_
         refine tk 38 165 bC ?_
         refine pu 39 166 ?_
         refine pu 40 167 ?_
         refine pu 41 168 ?_
         refine done_ (done_of HT_.out (by kernel_rfl)) ?_
         try go_wp2
         go_meet
         case rel => exact ⟨_, (((rd bB aA) != ((aA8 aG aA).f1))), (by first | rfl | (simp; done) | (simp [*]; done)), H', ⟨by have := eN.out; have := iE.out; have := iG.out; first | omega | exact Nat.le_refl _⟩, ⟨pV aZ.out⟩, ⟨pR aV.out⟩, ⟨pR aK.out⟩, ⟨pR bF.out⟩, ⟨pR aW.out⟩, ⟨pR aC.out⟩, ⟨pR aD.out⟩, ⟨pB aJ.out⟩, ⟨pB aH.out⟩, ⟨pB aI.out⟩, ⟨pB aQ.out⟩, ⟨pE HB⟩⟩
        case rest =>
         as_aux_lemma =>
         subst hRR
         clear mY
         try clear c1
         try clear p1
         try clear q1
         try clear hx1
         try clear c2
         try clear p2
         try clear c10
         try clear p16
         try clear q16
         try clear hx16
         try clear c106
         try clear lI
         try clear lJ
         try clear cQ
         try clear cR
         try clear eE
         try clear eG
         try clear eF
         try clear eH
         (try clear aZ); (try clear aV); (try clear aK); (try clear bF); (try clear aW); (try clear aC); (try clear aD); (try clear aJ); (try clear aH); (try clear aI); (try clear aQ); (try clear HB)
         obtain ⟨kq, fD, rfl, HA, lL, aZ, aV, aK, bF, aW, aC, aD, aJ, aH, aI, aQ, HB⟩ := hcut
         cases kq with
         | zero => exact absurd HA.out (by simp [aA1.j3])
         | succ kj88 =>
          have H := HA.out
          clear HA
          simp only [aA1.j3] at H
          by_cases c111 : fD = true
          ·subst c111
           rw [if_pos rfl] at H
           exact absurd ((Option.some.inj H).trans HRT.out) (by simp)
          replace c111 := Bool.eq_false_iff.mpr c111
          subst c111
          rw [if_neg (show ¬ (false = true) by decide)] at H
          by_cases c112 : 0 ≤ aA
          rotate_left
          ·rw [if_neg c112] at H
           exact absurd H (by simp)
          rw [if_pos c112] at H
          have rH : decide (0 ≤ aA) = true := decide_eq_true c112
          clear c112
          by_cases c113 : aA < (bB.length : Int)
          rotate_left
          ·rw [if_neg c113] at H
           exact absurd H (by simp)
          rw [if_pos c113] at H
          have rI : decide (aA < (bB.length : Int)) = true := decide_eq_true c113
          clear c113
          by_cases c114 : aA < (cH.length : Int)
          rotate_left
          ·rw [if_neg c114] at H
           exact absurd H (by simp)
          rw [if_pos c114] at H
          have rJ : decide (aA < (cH.length : Int)) = true := decide_eq_true c114
          clear c114
          obtain ⟨fF, gZ⟩ : ∃ j_ : Int, (mx cU (wrap64 ((rd bB aA) + (rd cH aA)))) = j_ := ⟨_, rfl⟩
          replace H : (if aA < (aU.length : Int) then (if (wrap64 ((rd bB aA) - ((aA4 aU aA).f1))) > dV then (aA1.j4 kj88 l2 (wrap64 (1 + (Int.tmod (wrap64 (a1)) 5))) bL aG dI dV aT cH bB fF aA true aU bE bQ bS) else (if aT = 2 then (if aA = dI then (aA1.j4 kj88 l2 (wrap64 (1 + (Int.tmod (wrap64 (a1)) 5))) bL aG dI dV aT cH bB fF aA ((wrap64 ((rd bB aA) - ((aA4 aU aA).f1))) != dV) aU bE bQ bS) else (aA1.j4 kj88 l2 (wrap64 (1 + (Int.tmod (wrap64 (a1)) 5))) bL aG dI dV aT cH bB fF aA false aU bE bQ bS)) else (aA1.j4 kj88 l2 (wrap64 (1 + (Int.tmod (wrap64 (a1)) 5))) bL aG dI dV aT cH bB fF aA false aU bE bQ bS))) else (none)) = some r := by first | (rw [gZ] at H; exact H) | (simp only [gZ] at H ⊢; exact H)
          have hji115_ : (if cU < (wrap64 ((rd bB aA) + (rd cH aA))) then (wrap64 ((rd bB aA) + (rd cH aA))) else cU) = fF := gZ
          have lM := aM H
          clear H
          try go_wp2
          replace aZ := aM (Kd.V_drew aZ.out)
          replace aV := aM (Kd.R_drew aV.out)
          replace aK := aM (Kd.R_drew aK.out)
          replace bF := aM (Kd.R_drew bF.out)
          replace aW := aM (Kd.R_drew aW.out)
          replace aC := aM (Kd.R_drew aC.out)
          replace aD := aM (Kd.R_drew aD.out)
          replace aJ := aM (blk_drew aJ.out)
          replace aH := aM (blk_drew aH.out)
          replace aI := aM (blk_drew aI.out)
          replace aQ := aM (blk_drew aQ.out)
          replace HB := aM (below_drew1 HB.out)
          have nL : 0 ≤ (aA : Int) := dT
          have nM : aA < (bB.length : Int) := dT
          obtain ⟨eK, rK, jE⟩ := Kd.at_int (Kd.R_reads' aW.out).2.2 aA nL nM
          cases rK
          replace nL := eq_true nL
          replace nM := eq_true nM
          have nN : 0 ≤ (aA : Int) := dT
          have nO : aA < (cH.length : Int) := dT
          obtain ⟨mI, rL, jF⟩ := Kd.at_int (Kd.R_reads' bF.out).2.2 aA nN nO
          cases rL
          replace nN := eq_true nN
          replace nO := eq_true nO
          refine start_ (n := 12) (S := fun w' => w'.cell? (eK.add (aA).toNat) = some (.int .i64 (rd bB aA)) ∧ w'.cell? (mI.add (aA).toNat) = some (.int .i64 (rd cH aA))) (ds := []) #[false, false, false, false, false, false, false, false, false, false, false, false] (by kernel_rfl) rfl rfl ⟨jE, jF⟩ (fun bC => ?_); refine with_tabW aA1.tab19 aA1.bits19 (fun HT_ HW_ => ?_)
          generalize wc.drew = w117 at aZ aV aK bF aW aC aD aJ aH aI aQ HB jE jF bC ⊢
          refine pu 0 169 ?_
          refine pu 1 170 ?_
          refine pu 2 171 ?_
          refine pu 3 172 ?_
          refine pu 5 174 ?_
          refine pu 6 175 ?_
          refine pu 7 176 ?_
          refine tk 4 173 bC ?_
          refine tk 8 177 bC ?_
          refine pu 9 178 ?_
          refine pu 10 179 ?_
          refine pu 11 21 ?_
          refine done_ (done_of HT_.out (by kernel_rfl)) ?_
          go_upto_region 20 with (fail)
          obtain ⟨RR, hRR⟩ : ∃ RR : Value → World → Prop, RR = (fun rM wc => ∃ (kq : Nat) (eV : Bool), rM = .bool eV ∧ Aside0 (aA1.j4 kq l2 (wrap64 (1 + (Int.tmod (wrap64 (a1)) 5))) bL aG dI dV aT cH bB fF aA eV aU bE bQ bS = some r) ∧ Aside0 (kq ≤ kj88) ∧ Aside0 (Kd.V (Kd.int .u8) 5 wc w.heap.size (fun k_ => (P2_ k_ ∨ w.heap.size ≤ k_) ∧ k_ ≠ bT ∧ k_ ≠ bA ∧ k_ ≠ aN ∧ k_ ≠ aE) (.slice A2 l2.length c2) l2) ∧ Aside0 (Kd.R (Kd.int .i64) 3 wc w.heap.size (fun k_ => (w.heap.size ≤ k_)) (.slice gX bL.length gY) bL) ∧ Aside0 (Kd.R k42 42 wc w.heap.size (fun k_ => (w.heap.size ≤ k_) ∧ k_ ≠ aN ∧ k_ ≠ aE) (.slice (some fK) aG.length jR) aG) ∧ Aside0 (Kd.R (Kd.int .i64) 3 wc w.heap.size (fun k_ => (w.heap.size ≤ k_)) (.slice (some mI) cH.length iB) cH) ∧ Aside0 (Kd.R (Kd.int .i64) 3 wc w.heap.size (fun k_ => (w.heap.size ≤ k_)) (.slice (some eK) bB.length jQ) bB) ∧ Aside0 (Kd.R k67 67 wc w.heap.size (fun k_ => (w.heap.size ≤ k_)) (.slice cC aU.length bU) aU) ∧ Aside0 (Kd.R (Kd.int .i64) 3 wc w.heap.size (fun k_ => (w.heap.size ≤ k_)) (.slice bX bE.length bV) bE) ∧ Aside0 (wc.heap[bT]? = some (.cells #[(.slice dZ dG.length eA), .int .u8 dP, (.slice eB dH.length eC)] 76 (0, 0))) ∧ Aside0 (wc.heap[bA]? = some (.cells #[(.slice cC aU.length bU), (.slice bX bE.length bV)] 25 (0, 0))) ∧ Aside0 (wc.heap[aN]? = some (.cells #[.int .i64 bQ, .int .i64 bS] 42 (0, 0))) ∧ Aside0 (wc.heap[aE]? = some (.cells #[.int .i64 ((aA8 aG aA).f0), .int .i64 ((aA8 aG aA).f1)] 42 (0, 0))) ∧ Aside0 (Below w.heap.size w wc)) := ⟨_, rfl⟩
          go_cut [216] from 180 to 216 RR
          case first =>
           as_aux_lemma =>
           subst hRR
           have H := lM.out
           clear lM
           by_cases c118 : aA < (aU.length : Int)
           rotate_left
           ·rw [if_neg c118] at H
            exact absurd H (by simp)
           rw [if_pos c118] at H
           have lN : decide (aA < (aU.length : Int)) = true := decide_eq_true c118
           clear c118
           (first | rw [lN] | (simp only [i64_w, i32_w]; rw [lN]) | skip)
           by_cases c119 : (wrap64 ((rd bB aA) - ((aA4 aU aA).f1))) > dV
           ·rw [if_pos c119] at H
            have nP : decide (dV < (wrap64 ((rd bB aA) - ((aA4 aU aA).f1)))) = true := decide_eq_true c119
            clear c119
            exact (aA1.dead_j4 _ _ _ _ _ _ _ _ _ _ _ _ _ _ _ _ _ H HRT.out).elim
           rw [if_neg c119] at H
           have nP : decide (dV < (wrap64 ((rd bB aA) - ((aA4 aU aA).f1)))) = false := decide_eq_false c119
           clear c119
           by_cases c120 : aT = 2
           rotate_left
           ·rw [if_neg c120] at H
            have iH : (aT == 2) = false := beq_eq_false_iff_ne.mpr c120
            have iI : (aT != 2) = true := bne_iff_ne.mpr c120
            have H' := aM H
            clear H
            try go_wp2
            replace aZ := aM (Kd.V_drew aZ.out)
            replace aV := aM (Kd.R_drew aV.out)
            replace aK := aM (Kd.R_drew aK.out)
            replace bF := aM (Kd.R_drew bF.out)
            replace aW := aM (Kd.R_drew aW.out)
            replace aC := aM (Kd.R_drew aC.out)
            replace aD := aM (Kd.R_drew aD.out)
            replace aJ := aM (blk_drew aJ.out)
            replace aH := aM (blk_drew aH.out)
            replace aI := aM (blk_drew aI.out)
            replace aQ := aM (blk_drew aQ.out)
            replace HB := aM (below_drew1 HB.out)
            have eY : 0 ≤ (aA : Int) := dT
            have fA : aA < (bB.length : Int) := dT
            obtain ⟨iD, lO, cX⟩ := Kd.at_int (Kd.R_reads' aW.out).2.2 aA eY fA
            obtain rfl : eK = iD := (by injection lO)
            replace eY := eq_true eY
            replace fA := eq_true fA
            have eZ : 0 ≤ (aA : Int) := dT
            have fB : aA < (aU.length : Int) := dT
            obtain ⟨bR, lP, cY, cZ, dA, dB⟩ := aD4 (Kd.R_reads' aC.out).2.2 aA eZ fB
            cases lP
            replace eZ := eq_true eZ
            replace fB := eq_true fB
            refine start_ (n := 37) (S := fun w' => w'.cell? ⟨bA, 0, none⟩ = some (.slice (some bR) aU.length bU) ∧ w'.cell? ⟨bA, 1, none⟩ = some (.slice bX bE.length bV) ∧ w'.cell? (eK.add (aA).toNat) = some (.int .i64 (rd bB aA)) ∧ w'.cell? (bR.add ((aA).toNat * 4)) = some (.int .i64 ((aA4 aU aA).f0)) ∧ w'.cell? ⟨(bR.add ((aA).toNat * 4)).block, (bR.add ((aA).toNat * 4)).off + 1, none⟩ = some (.int .i64 ((aA4 aU aA).f1)) ∧ w'.cell? ⟨(bR.add ((aA).toNat * 4)).block, (bR.add ((aA).toNat * 4)).off + 2, none⟩ = some (.int .i64 ((aA4 aU aA).f2.f0)) ∧ w'.cell? ⟨(bR.add ((aA).toNat * 4)).block, (bR.add ((aA).toNat * 4)).off + 3, none⟩ = some (.int .i64 ((aA4 aU aA).f2.f1))) (ds := []) #[false, false, false, false, false, false, false, false, false, false, false, false, false, false, false, false, false, false, false, false, false, false, false, false, false, false, false, false, false, false, false, false, false, false, false, false, false] (by kernel_rfl) rfl rfl ⟨(blk_cell aH.out 0).trans rfl, (blk_cell aH.out 1).trans rfl, cX, cY, cZ, dA, dB⟩ (fun bC => ?_); refine with_tabW aA1.tab20 aA1.bits20 (fun HT_ HW_ => ?_)
            generalize w117.drew = w124 at aZ aV aK bF aW aC aD aJ aH aI aQ HB cX cY cZ dA dB bC ⊢
            refine pu 0 180 ?_
            refine pu 1 181 ?_
            refine pu 2 182 ?_
            refine pu 4 184 ?_
            refine pu 6 186 ?_
            refine pu 11 191 ?_
            refine tk 3 183 bC ?_
            refine tk 5 185 bC ?_
            refine pu 7 187 ?_
            refine pu 8 188 ?_
            refine tk 9 189 bC ?_
            refine pu 10 190 ?_
            refine pu 12 192 ?_
            refine pu 13 193 ?_
            refine pu 14 194 ?_
            refine pu 15 195 ?_
            refine pu 16 196 ?_
            refine pd 17 197 ?_
            refine pd 18 198 ?_
            refine pd 19 199 ?_
            refine pu 20 200 ?_
            refine pu 21 201 ?_
            refine pd 22 202 ?_
            refine pd 23 203 ?_
            refine pd 24 204 ?_
            refine pd 25 205 ?_
            refine pd 26 206 ?_
            refine pd 27 207 ?_
            refine pd 28 208 ?_
            refine pd 29 209 ?_
            refine pd 30 210 ?_
            refine pd 31 211 ?_
            refine pd 32 212 ?_
            refine pd 33 213 ?_
            refine pd 34 214 ?_
            refine pu 35 215 ?_
            refine pu 36 216 ?_
            refine done_ (done_of HT_.out (by kernel_rfl)) ?_
            try go_wp2
            go_meet
            case rel => exact ⟨_, (false), (by first | rfl | (simp; done) | (simp [*]; done)), H', ⟨by have := eN.out; have := iE.out; have := iG.out; have := lL.out; first | omega | exact Nat.le_refl _⟩, ⟨pV aZ.out⟩, ⟨pR aV.out⟩, ⟨pR aK.out⟩, ⟨pR bF.out⟩, ⟨pR aW.out⟩, ⟨pR aC.out⟩, ⟨pR aD.out⟩, ⟨pB aJ.out⟩, ⟨pB aH.out⟩, ⟨pB aI.out⟩, ⟨pB aQ.out⟩, ⟨pE HB⟩⟩
           rw [if_pos c120] at H
           have iH : (aT == 2) = true := beq_iff_eq.mpr c120
           have iI : (aT != 2) = false := bne_eq_false_iff_eq.mpr c120
           clear c120
           by_cases c121 : aA = dI
           rotate_left
           ·rw [if_neg c121] at H
            have nQ : (aA == dI) = false := beq_eq_false_iff_ne.mpr c121
            have iJ : (aA != dI) = true := bne_iff_ne.mpr c121
            have H' := aM H
            clear H
            try go_wp2
            replace aZ := aM (Kd.V_drew aZ.out)
            replace aV := aM (Kd.R_drew aV.out)
            replace aK := aM (Kd.R_drew aK.out)
            replace bF := aM (Kd.R_drew bF.out)
            replace aW := aM (Kd.R_drew aW.out)
            replace aC := aM (Kd.R_drew aC.out)
            replace aD := aM (Kd.R_drew aD.out)
            replace aJ := aM (blk_drew aJ.out)
            replace aH := aM (blk_drew aH.out)
            replace aI := aM (blk_drew aI.out)
            replace aQ := aM (blk_drew aQ.out)
            replace HB := aM (below_drew1 HB.out)
            have eY : 0 ≤ (aA : Int) := dT
            have fA : aA < (bB.length : Int) := dT
            obtain ⟨iD, lO, cX⟩ := Kd.at_int (Kd.R_reads' aW.out).2.2 aA eY fA
            obtain rfl : eK = iD := (by injection lO)
            replace eY := eq_true eY
            replace fA := eq_true fA
            have eZ : 0 ≤ (aA : Int) := dT
            have fB : aA < (aU.length : Int) := dT
            obtain ⟨bR, lP, cY, cZ, dA, dB⟩ := aD4 (Kd.R_reads' aC.out).2.2 aA eZ fB
            cases lP
            replace eZ := eq_true eZ
            replace fB := eq_true fB
            refine start_ (n := 37) (S := fun w' => w'.cell? ⟨bA, 0, none⟩ = some (.slice (some bR) aU.length bU) ∧ w'.cell? ⟨bA, 1, none⟩ = some (.slice bX bE.length bV) ∧ w'.cell? (eK.add (aA).toNat) = some (.int .i64 (rd bB aA)) ∧ w'.cell? (bR.add ((aA).toNat * 4)) = some (.int .i64 ((aA4 aU aA).f0)) ∧ w'.cell? ⟨(bR.add ((aA).toNat * 4)).block, (bR.add ((aA).toNat * 4)).off + 1, none⟩ = some (.int .i64 ((aA4 aU aA).f1)) ∧ w'.cell? ⟨(bR.add ((aA).toNat * 4)).block, (bR.add ((aA).toNat * 4)).off + 2, none⟩ = some (.int .i64 ((aA4 aU aA).f2.f0)) ∧ w'.cell? ⟨(bR.add ((aA).toNat * 4)).block, (bR.add ((aA).toNat * 4)).off + 3, none⟩ = some (.int .i64 ((aA4 aU aA).f2.f1))) (ds := []) #[false, false, false, false, false, false, false, false, false, false, false, false, false, false, false, false, false, false, false, false, false, false, false, false, false, false, false, false, false, false, false, false, false, false, false, false, false] (by kernel_rfl) rfl rfl ⟨(blk_cell aH.out 0).trans rfl, (blk_cell aH.out 1).trans rfl, cX, cY, cZ, dA, dB⟩ (fun bC => ?_); refine with_tabW aA1.tab20 aA1.bits20 (fun HT_ HW_ => ?_)
            generalize w117.drew = w123 at aZ aV aK bF aW aC aD aJ aH aI aQ HB cX cY cZ dA dB bC ⊢
            refine pu 0 180 ?_
            refine pu 1 181 ?_
            refine pu 2 182 ?_
            refine pu 4 184 ?_
            refine pu 6 186 ?_
            refine pu 11 191 ?_
            refine tk 3 183 bC ?_
            refine tk 5 185 bC ?_
            refine pu 7 187 ?_
            refine pu 8 188 ?_
            refine tk 9 189 bC ?_
            refine pu 10 190 ?_
            refine pu 12 192 ?_
            refine pu 13 193 ?_
            refine pu 14 194 ?_
            refine pu 15 195 ?_
            refine pu 16 196 ?_
            refine pu 17 197 ?_
            refine pu 18 198 ?_
            refine pu 19 199 ?_
            refine pu 20 200 ?_
            refine pu 21 201 ?_
            refine pd 22 202 ?_
            refine pd 23 203 ?_
            refine pd 24 204 ?_
            refine pd 25 205 ?_
            refine pd 26 206 ?_
            refine pd 27 207 ?_
            refine pd 28 208 ?_
            refine pd 29 209 ?_
            refine pd 30 210 ?_
            refine pd 31 211 ?_
            refine pd 32 212 ?_
            refine pd 33 213 ?_
            refine pd 34 214 ?_
            refine pu 35 215 ?_
            refine pu 36 216 ?_
            refine done_ (done_of HT_.out (by kernel_rfl)) ?_
            try go_wp2
            go_meet
            case rel => exact ⟨_, (false), (by first | rfl | (simp; done) | (simp [*]; done)), H', ⟨by have := eN.out; have := iE.out; have := iG.out; have := lL.out; first | omega | exact Nat.le_refl _⟩, ⟨pV aZ.out⟩, ⟨pR aV.out⟩, ⟨pR aK.out⟩, ⟨pR bF.out⟩, ⟨pR aW.out⟩, ⟨pR aC.out⟩, ⟨pR aD.out⟩, ⟨pB aJ.out⟩, ⟨pB aH.out⟩, ⟨pB aI.out⟩, ⟨pB aQ.out⟩, ⟨pE HB⟩⟩
           rw [if_pos c121] at H
           have nQ : (aA == dI) = true := beq_iff_eq.mpr c121
           have iJ : (aA != dI) = false := bne_eq_false_iff_eq.mpr c121
           clear c121
           have H' := aM H
           clear H
           try go_wp2
           replace aZ := aM (Kd.V_drew aZ.out)
           replace aV := aM (Kd.R_drew aV.out)
           replace aK := aM (Kd.R_drew aK.out)
           replace bF := aM (Kd.R_drew bF.out)
           replace aW := aM (Kd.R_drew aW.out)
           replace aC := aM (Kd.R_drew aC.out)
           replace aD := aM (Kd.R_drew aD.out)
           replace aJ := aM (blk_drew aJ.out)
           replace aH := aM (blk_drew aH.out)
           replace aI := aM (blk_drew aI.out)
           replace aQ := aM (blk_drew aQ.out)
           replace HB := aM (below_drew1 HB.out)
           have eY : 0 ≤ (aA : Int) := dT
           have fA : aA < (bB.length : Int) := dT
           obtain ⟨iD, lO, cX⟩ := Kd.at_int (Kd.R_reads' aW.out).2.2 aA eY fA
           obtain rfl : eK = iD := (by injection lO)
           replace eY := eq_true eY
           replace fA := eq_true fA
           have eZ : 0 ≤ (aA : Int) := dT
           have fB : aA < (aU.length : Int) := dT
           obtain ⟨bR, lP, cY, cZ, dA, dB⟩ := aD4 (Kd.R_reads' aC.out).2.2 aA eZ fB
           cases lP
           replace eZ := eq_true eZ
           replace fB := eq_true fB
           have nR : 0 ≤ (aA : Int) := dT
           have nS : aA < (bB.length : Int) := dT
           obtain ⟨oZ, rN, jG⟩ := Kd.at_int (Kd.R_reads' aW.out).2.2 aA nR nS
           obtain rfl : eK = oZ := (by injection rN)
           replace nR := eq_true nR
           replace nS := eq_true nS
           have nT : 0 ≤ (aA : Int) := dT
           have nU : aA < (aU.length : Int) := dT
           obtain ⟨pA, rO, jH, jI, jJ, jK⟩ := aD4 (Kd.R_reads' aC.out).2.2 aA nT nU
           obtain rfl : bR = pA := (by injection rO)
           replace nT := eq_true nT
           replace nU := eq_true nU
           refine start_ (n := 37) (S := fun w' => w'.cell? ⟨bA, 0, none⟩ = some (.slice (some bR) aU.length bU) ∧ w'.cell? ⟨bA, 1, none⟩ = some (.slice bX bE.length bV) ∧ w'.cell? (eK.add (aA).toNat) = some (.int .i64 (rd bB aA)) ∧ w'.cell? (bR.add ((aA).toNat * 4)) = some (.int .i64 ((aA4 aU aA).f0)) ∧ w'.cell? ⟨(bR.add ((aA).toNat * 4)).block, (bR.add ((aA).toNat * 4)).off + 1, none⟩ = some (.int .i64 ((aA4 aU aA).f1)) ∧ w'.cell? ⟨(bR.add ((aA).toNat * 4)).block, (bR.add ((aA).toNat * 4)).off + 2, none⟩ = some (.int .i64 ((aA4 aU aA).f2.f0)) ∧ w'.cell? ⟨(bR.add ((aA).toNat * 4)).block, (bR.add ((aA).toNat * 4)).off + 3, none⟩ = some (.int .i64 ((aA4 aU aA).f2.f1)) ∧ w'.cell? (eK.add (aA).toNat) = some (.int .i64 (rd bB aA)) ∧ w'.cell? (bR.add ((aA).toNat * 4)) = some (.int .i64 ((aA4 aU aA).f0)) ∧ w'.cell? ⟨(bR.add ((aA).toNat * 4)).block, (bR.add ((aA).toNat * 4)).off + 1, none⟩ = some (.int .i64 ((aA4 aU aA).f1)) ∧ w'.cell? ⟨(bR.add ((aA).toNat * 4)).block, (bR.add ((aA).toNat * 4)).off + 2, none⟩ = some (.int .i64 ((aA4 aU aA).f2.f0)) ∧ w'.cell? ⟨(bR.add ((aA).toNat * 4)).block, (bR.add ((aA).toNat * 4)).off + 3, none⟩ = some (.int .i64 ((aA4 aU aA).f2.f1))) (ds := []) #[false, false, false, false, false, false, false, false, false, false, false, false, false, false, false, false, false, false, false, false, false, false, false, false, false, false, false, false, false, false, false, false, false, false, false, false, false] (by kernel_rfl) rfl rfl ⟨(blk_cell aH.out 0).trans rfl, (blk_cell aH.out 1).trans rfl, cX, cY, cZ, dA, dB, jG, jH, jI, jJ, jK⟩ (fun bC => ?_); refine with_tabW aA1.tab20 aA1.bits20 (fun HT_ HW_ => ?_)
           generalize w117.drew = w122 at aZ aV aK bF aW aC aD aJ aH aI aQ HB cX cY cZ dA dB jG jH jI jJ jK bC ⊢
           refine pu 0 180 ?_
           refine pu 1 181 ?_
           refine pu 2 182 ?_
           refine pu 4 184 ?_
           refine pu 6 186 ?_
           refine pu 11 191 ?_
           refine tk 3 183 bC ?_
           refine tk 5 185 bC ?_
           refine pu 7 187 ?_
           refine pu 8 188 ?_
           refine tk 9 189 bC ?_
           refine pu 10 190 ?_
           refine pu 12 192 ?_
           refine pu 13 193 ?_
           refine pu 14 194 ?_
           refine pu 15 195 ?_
           refine pu 16 196 ?_
           refine pu 17 197 ?_
           refine pu 18 198 ?_
           refine pu 19 199 ?_
           refine pu 20 200 ?_
           refine pu 21 201 ?_
           refine pu 22 202 ?_
           refine pu 23 203 ?_
           refine pu 24 204 ?_
           refine pu 26 206 ?_
           refine pu 28 208 ?_
           refine pu 33 213 ?_
           refine tk 25 205 bC ?_
           refine tk 27 207 bC ?_
           refine pu 29 209 ?_
           refine pu 30 210 ?_
           refine tk 31 211 bC ?_
           refine pu 32 212 ?_
           refine pu 34 214 ?_
           refine pu 35 215 ?_
           refine pu 36 216 ?_
           refine done_ (done_of HT_.out (by kernel_rfl)) ?_
           try go_wp2
           go_meet
           case rel => exact ⟨_, (((wrap64 ((rd bB aA) - ((aA4 aU aA).f1))) != dV)), (by first | rfl | (simp; done) | (simp [*]; done)), H', ⟨by have := eN.out; have := iE.out; have := iG.out; have := lL.out; first | omega | exact Nat.le_refl _⟩, ⟨pV aZ.out⟩, ⟨pR aV.out⟩, ⟨pR aK.out⟩, ⟨pR bF.out⟩, ⟨pR aW.out⟩, ⟨pR aC.out⟩, ⟨pR aD.out⟩, ⟨pB aJ.out⟩, ⟨pB aH.out⟩, ⟨pB aI.out⟩, ⟨pB aQ.out⟩, ⟨pE HB⟩⟩
          case rest =>
           as_aux_lemma =>
           subst hRR
           clear lM
           try clear c1
           try clear p1
           try clear q1
           try clear hx1
           try clear p2
           try clear c11
           try clear c12
           try clear p17
           try clear q17
           try clear hx17
           try clear c118
           try clear c120
           try clear iH
           try clear iI
           try clear c121
           try clear iJ
           try clear cX
           try clear cY
           try clear cZ
           try clear dA
           try clear dB
           try clear eY
           try clear eZ
           try clear fA
           try clear fB
           (try clear aZ); (try clear aV); (try clear aK); (try clear bF); (try clear aW); (try clear aC); (try clear aD); (try clear aJ); (try clear aH); (try clear aI); (try clear aQ); (try clear HB)
           obtain ⟨kq, eV, rfl, HA, mJ, aZ, aV, aK, bF, aW, aC, aD, aJ, aH, aI, aQ, HB⟩ := hcut
           cases kq with
           | zero => exact absurd HA.out (by simp [aA1.j4])
           | succ kj115 =>
            have H := HA.out
            clear HA
            simp only [aA1.j4] at H
            by_cases c125 : eV = true
            ·subst c125
             rw [if_pos rfl] at H
             exact absurd ((Option.some.inj H).trans HRT.out) (by simp)
            replace c125 := Bool.eq_false_iff.mpr c125
            subst c125
            rw [if_neg (show ¬ (false = true) by decide)] at H
            have H' := aM H
            clear H
            go_wp2
            go_roundg kj115
            case measure => have := eN.out; have := iE.out; have := iG.out; have := lL.out; have := mJ.out; omega
            case rel => exact ⟨(fF), (wrap64 (aA + 1)), (by first | rfl | (simp; done) | (simp only [← gZ] <;> (first | rfl | simp)) | (simp [*]; done)), (by first | rfl | (simp; done) | (simp [*]; done)), H', ⟨by have := eN.out; have := iE.out; have := iG.out; have := lL.out; have := mJ.out; omega⟩, ⟨by (with_reducible repeat (first | apply Kd.V_alloc | apply Kd.V_drewN | apply Kd.V_drew)); exact Kd.V_mono aZ.out (fun _ hk => by first | exact hk.1 | simp [hk])⟩, ⟨pR aV.out⟩, ⟨by (with_reducible repeat (first | apply Kd.R_alloc | apply Kd.R_drewN | apply Kd.R_drew)); exact Kd.R_mono aK.out (fun _ hk => by first | exact hk.1 | simp [hk])⟩, ⟨pR bF.out⟩, ⟨pR aW.out⟩, ⟨pR aC.out⟩, ⟨pR aD.out⟩, ⟨pB aJ.out⟩, ⟨pB aH.out⟩, ⟨pB aI.out⟩, ⟨pE HB⟩⟩
end Go.Proofs.YtlmglnobdcgbeaaGreat.P
