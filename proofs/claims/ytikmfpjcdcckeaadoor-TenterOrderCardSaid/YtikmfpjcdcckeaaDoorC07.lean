/- Part 7 of what the law's proof needs: words, walks of functions and plain facts. -/
import Derived.Test.YtikmfpjcdcckeaaDoorC01
import Derived.Test.YtikmfpjcdcckeaaDoorC02
import Derived.Test.YtikmfpjcdcckeaaDoorC03
import Derived.Test.YtikmfpjcdcckeaaDoorC04
import Derived.Test.YtikmfpjcdcckeaaDoorC06
set_option linter.unusedVariables false
set_option linter.unusedSimpArgs false
namespace Go.Proofs.YtikmfpjcdcckeaaDoor.P
open Go.RowKit Go.Proofs.YtikmfpjcdcckeaaDoorW.PrintWords Go.Proofs.YtikmfpjcdcckeaaDoorW.PrintLast Go.Proofs.YtikmfpjcdcckeaaDoorW.PrintMore
attribute [local go_sem] max2_int min2_int max_two min_two max_three min_three max_four min_four
mutual
def walkmilllaw05_TenterOrder.l0 : Nat → List Int → List (S40) → Int → List Int → Int → List Int → Int → Int → Int → List (S42) → List Int → Int → Int → Option (Bool)
 | 0, _, _, _, _, _, _, _, _, _, _, _, _, _ => none
 | k + 1, x1, x8, x9, x10, x11, x12, x13, x103000, x103001, x115000, x115001, x115002, x115003 => if x13 < (x115000.length : Int) then ((walkmilllaw05_own.f x115000 x115001 x115002 x115003).bind fun bt133 => ((walkmilllaw05_spans.f x8).bind fun t141 => ((tenter_Late.f k bt133.1 bt133.2.1 bt133.2.2.1 bt133.2.2.2 t141 x13 x9).bind fun bt144 => (if bt144.2 = 0 then (if x12.length < 17592186044416 then (walkmilllaw05_TenterOrder.l0 k x1 x8 x9 x10 x11 (x12 ++ [bt144.1]) (wrap64 (x13 + 1)) x103000 x103001 x115000 x115001 x115002 x115003) else (none)) else (if x12.length < 17592186044416 then (walkmilllaw05_TenterOrder.l0 k x1 x8 x9 x10 x11 (x12 ++ [(-1)]) (wrap64 (x13 + 1)) x103000 x103001 x115000 x115001 x115002 x115003) else (none)))))) else (if x11 = 0 then (if (x10.length : Int) = (x12.length : Int) then (walkmilllaw05_TenterOrder.l3 k x8 x9 x10 x12 0 x103000 x103001 x115000 x115001 x115002 x115003 false false false false false false) else (some false)) else (if x11 = 9 then (walkmilllaw05_TenterOrder.j1 k x1 x12 ((x10.length : Int) != 0)) else (walkmilllaw05_TenterOrder.j1 k x1 x12 true)))
def walkmilllaw05_TenterOrder.l3 : Nat → List (S40) → Int → List Int → List Int → Int → Int → Int → List (S42) → List Int → Int → Int → Bool → Bool → Bool → Bool → Bool → Bool → Option (Bool)
 | 0, _, _, _, _, _, _, _, _, _, _, _, _, _, _, _, _, _ => none
 | k + 1, x8, x9, x10, x12, x22, x103000, x103001, x115000, x115001, x115002, x115003, x197000, x197001, x197002, x197003, x197004, x197005 => if x22 < (x10.length : Int) then (if 0 ≤ x22 then (if (rd x10 x22) < 0 then (some false) else (if (rd x10 x22) ≥ (x12.length : Int) then (some false) else (if (rd x10 x22) = 0 then (if x197000 = true then (some false) else (if 0 ≤ (rd x10 x22) then (if (rd x10 x22) < (x12.length : Int) then (if (rd x12 (rd x10 x22)) < x22 then (some false) else (walkmilllaw05_TenterOrder.l3 k x8 x9 x10 x12 (wrap64 (x22 + 1)) x103000 x103001 x115000 x115001 x115002 x115003 true x197001 x197002 x197003 x197004 x197005)) else (none)) else (none))) else (if (rd x10 x22) = 1 then (if x197001 = true then (some false) else (if 0 ≤ (rd x10 x22) then (if (rd x10 x22) < (x12.length : Int) then (if (rd x12 (rd x10 x22)) < x22 then (some false) else (walkmilllaw05_TenterOrder.l3 k x8 x9 x10 x12 (wrap64 (x22 + 1)) x103000 x103001 x115000 x115001 x115002 x115003 x197000 true x197002 x197003 x197004 x197005)) else (none)) else (none))) else (if (rd x10 x22) = 2 then (if x197002 = true then (some false) else (if 0 ≤ (rd x10 x22) then (if (rd x10 x22) < (x12.length : Int) then (if (rd x12 (rd x10 x22)) < x22 then (some false) else (walkmilllaw05_TenterOrder.l3 k x8 x9 x10 x12 (wrap64 (x22 + 1)) x103000 x103001 x115000 x115001 x115002 x115003 x197000 x197001 true x197003 x197004 x197005)) else (none)) else (none))) else (if (rd x10 x22) = 3 then (if x197003 = true then (some false) else (if 0 ≤ (rd x10 x22) then (if (rd x10 x22) < (x12.length : Int) then (if (rd x12 (rd x10 x22)) < x22 then (some false) else (walkmilllaw05_TenterOrder.l3 k x8 x9 x10 x12 (wrap64 (x22 + 1)) x103000 x103001 x115000 x115001 x115002 x115003 x197000 x197001 x197002 true x197004 x197005)) else (none)) else (none))) else (if (rd x10 x22) = 4 then (if x197004 = true then (some false) else (if 0 ≤ (rd x10 x22) then (if (rd x10 x22) < (x12.length : Int) then (if (rd x12 (rd x10 x22)) < x22 then (some false) else (walkmilllaw05_TenterOrder.l3 k x8 x9 x10 x12 (wrap64 (x22 + 1)) x103000 x103001 x115000 x115001 x115002 x115003 x197000 x197001 x197002 x197003 true x197005)) else (none)) else (none))) else (if (rd x10 x22) = 5 then (if x197005 = true then (some false) else (if 0 ≤ (rd x10 x22) then (if (rd x10 x22) < (x12.length : Int) then (if (rd x12 (rd x10 x22)) < x22 then (some false) else (walkmilllaw05_TenterOrder.l3 k x8 x9 x10 x12 (wrap64 (x22 + 1)) x103000 x103001 x115000 x115001 x115002 x115003 x197000 x197001 x197002 x197003 x197004 true)) else (none)) else (none))) else (none))))))))) else (none)) else ((walkmilllaw05_spans.f x8).bind fun t218 => (walkmilllaw05_TenterOrder.l4 k x8 x9 t218 (mn (x8.length : Int) (wrap64 (x9 + 1))) 0 x103000 x103001 x115000 x115001 x115002 x115003))
def walkmilllaw05_TenterOrder.l4 : Nat → List (S40) → Int → List (S40) → Int → Int → Int → Int → List (S42) → List Int → Int → Int → Option (Bool)
 | 0, _, _, _, _, _, _, _, _, _, _, _ => none
 | k + 1, x8, x9, x23, x24, x25, x103000, x103001, x115000, x115001, x115002, x115003 => if x25 < (x23.length : Int) then (if 0 ≤ x25 then ((walkmilllaw05_span.f (mn 100 (wrap64 (((rd_T40 x23 x25).f0) + (Int.tmod (wrap64 (x103001)) 9)))) (mn 100 (wrap64 (((rd_T40 x23 x25).f1) + (Int.tmod (wrap64 (x103001)) 9))))).bind fun bt223 => (walkmilllaw05_TenterOrder.l4 k x8 x9 (x23.set (x25 : Int).toNat (⟨bt223.1, bt223.2⟩ : S40)) x24 (wrap64 (x25 + 1)) x103000 x103001 x115000 x115001 x115002 x115003)) else (none)) else ((walkmilllaw05_own.f x115000 x115001 x115002 x115003).bind fun bt226 => ((tenter_Order.f k bt226.1 bt226.2.1 bt226.2.2.1 bt226.2.2.2 x23 x9).bind fun bt234 => ((tenter_Order.f k x115000 x115001 x115002 x115003 x8 x24).bind fun bt238 => (if bt234.2 = 0 then (if bt238.2 = 0 then ((walkmilllaw05_known.f).bind fun t242 => (some t242)) else (some false)) else (some false)))))
def walkmilllaw05_TenterOrder.j1 : Nat → List Int → List Int → Bool → Option (Bool)
 | 0, _, _, _ => none
 | k + 1, x1, x12, x82 => if x82 = true then (some false) else (walkmilllaw05_TenterOrder.l1 k x1 x12 (([] : List Int)) true 0)
def walkmilllaw05_TenterOrder.l1 : Nat → List Int → List Int → List Int → Bool → Int → Option (Bool)
 | 0, _, _, _, _, _ => none
 | k + 1, x1, x12, x16, x17, x18 => if x18 < (x12.length : Int) then (if x16.length < 17592186044416 then (walkmilllaw05_TenterOrder.l1 k x1 x12 (x16 ++ [x18]) x17 (wrap64 (x18 + 1))) else (none)) else (walkmilllaw05_TenterOrder.l2 k x1 x12 x16 x17 0)
def walkmilllaw05_TenterOrder.l2 : Nat → List Int → List Int → List Int → Bool → Int → Option (Bool)
 | 0, _, _, _, _, _ => none
 | k + 1, x1, x12, x16, x17, x19 => if x19 < (x12.length : Int) then ((walkmilllaw05_byteOf.f x1 x19).bind fun t158 => (if (x16.length : Int) = 0 then (none) else (if x17 = true then (if 0 ≤ (Int.tmod t158 (x16.length : Int)) then (if (Int.tmod t158 (x16.length : Int)) < (x16.length : Int) then (if 0 ≤ (rd x16 (Int.tmod t158 (x16.length : Int))) then (if (rd x16 (Int.tmod t158 (x16.length : Int))) < (x12.length : Int) then ((some (([] : List Int) : List Int)).bind fun y161 => (if (Int.tmod t158 (x16.length : Int)) ≤ (x16.length : Int) then ((some (x16.take ((Int.tmod t158 (x16.length : Int)) : Int).toNat : List Int)).bind fun y164 => (if y161.length + y164.length < 17592186044416 then ((some (y161 ++ y164 : List Int)).bind fun y168 => (if 0 ≤ (wrap64 ((Int.tmod t158 (x16.length : Int)) + 1)) then (if (wrap64 ((Int.tmod t158 (x16.length : Int)) + 1)) ≤ (x16.length : Int) then ((some (x16.drop ((wrap64 ((Int.tmod t158 (x16.length : Int)) + 1)) : Int).toNat : List Int)).bind fun y171 => (if y168.length + y171.length < 17592186044416 then (walkmilllaw05_TenterOrder.l2 k x1 x12 (y168 ++ y171) (decide ((rd x12 (rd x16 (Int.tmod t158 (x16.length : Int)))) ≥ x19)) (wrap64 (x19 + 1))) else (none))) else (none)) else (none))) else (none))) else (none))) else (none)) else (none)) else (none)) else (none)) else ((some (([] : List Int) : List Int)).bind fun y178 => (if 0 ≤ (Int.tmod t158 (x16.length : Int)) then (if (Int.tmod t158 (x16.length : Int)) ≤ (x16.length : Int) then ((some (x16.take ((Int.tmod t158 (x16.length : Int)) : Int).toNat : List Int)).bind fun y181 => (if y178.length + y181.length < 17592186044416 then ((some (y178 ++ y181 : List Int)).bind fun y185 => (if 0 ≤ (wrap64 ((Int.tmod t158 (x16.length : Int)) + 1)) then (if (wrap64 ((Int.tmod t158 (x16.length : Int)) + 1)) ≤ (x16.length : Int) then ((some (x16.drop ((wrap64 ((Int.tmod t158 (x16.length : Int)) + 1)) : Int).toNat : List Int)).bind fun y188 => (if y185.length + y188.length < 17592186044416 then (walkmilllaw05_TenterOrder.l2 k x1 x12 (y185 ++ y188) false (wrap64 (x19 + 1))) else (none))) else (none)) else (none))) else (none))) else (none)) else (none)))))) else (if x17 = true then (some false) else ((walkmilllaw05_known.f).bind fun t195 => (some t195)))
end
def walkmilllaw05_TenterOrder.f (k : Nat) (l0_0 : List (S71)) (a0_1 : Int) (a0_2 : Int) (a0_3 : Int) (a0_4 : Int) (a0_5 : Int) (l0_6 : List (S65)) (l1 : List Int) (a2_0 : Int) (a2_1 : Int) : Option (Bool) := (walkmilllaw05_Green_field.f k l0_0 a0_1 a0_2 a0_3 a0_4 a0_5 l0_6).bind fun bt103 => ((walkmilllaw05_Green_weather.f k l0_0 a0_1 a0_2 a0_3 a0_4 a0_5 l0_6).bind fun t111 => (if (wrap64 ((t111.length : Int) + 1)) = 0 then (none) else ((walkmilllaw05_own.f bt103.1 bt103.2.1 bt103.2.2.1 bt103.2.2.2).bind fun bt115 => ((walkmilllaw05_spans.f t111).bind fun t123 => ((tenter_Order.f k bt115.1 bt115.2.1 bt115.2.2.1 bt115.2.2.2 t123 (Int.tmod (wrap64 (a2_0)) (wrap64 ((t111.length : Int) + 1)))).bind fun bt126 => (walkmilllaw05_TenterOrder.l0 k l1 t111 (Int.tmod (wrap64 (a2_0)) (wrap64 ((t111.length : Int) + 1))) bt126.1 bt126.2 (([] : List Int)) 0 a2_0 a2_1 bt103.1 bt103.2.1 bt103.2.2.1 bt103.2.2.2))))))
theorem walkmilllaw05_TenterOrder.mono_l : ∀ k, (∀ y0 y1 y2 y3 y4 y5 y6 y7 y8 y9 y10 y11 y12, LeO (walkmilllaw05_TenterOrder.l0 k y0 y1 y2 y3 y4 y5 y6 y7 y8 y9 y10 y11 y12) (walkmilllaw05_TenterOrder.l0 (k + 1) y0 y1 y2 y3 y4 y5 y6 y7 y8 y9 y10 y11 y12)) ∧ (∀ y0 y1 y2 y3 y4 y5 y6 y7 y8 y9 y10 y11 y12 y13 y14 y15 y16, LeO (walkmilllaw05_TenterOrder.l3 k y0 y1 y2 y3 y4 y5 y6 y7 y8 y9 y10 y11 y12 y13 y14 y15 y16) (walkmilllaw05_TenterOrder.l3 (k + 1) y0 y1 y2 y3 y4 y5 y6 y7 y8 y9 y10 y11 y12 y13 y14 y15 y16)) ∧ (∀ y0 y1 y2 y3 y4 y5 y6 y7 y8 y9 y10, LeO (walkmilllaw05_TenterOrder.l4 k y0 y1 y2 y3 y4 y5 y6 y7 y8 y9 y10) (walkmilllaw05_TenterOrder.l4 (k + 1) y0 y1 y2 y3 y4 y5 y6 y7 y8 y9 y10)) ∧ (∀ y0 y1 y2, LeO (walkmilllaw05_TenterOrder.j1 k y0 y1 y2) (walkmilllaw05_TenterOrder.j1 (k + 1) y0 y1 y2)) ∧ (∀ y0 y1 y2 y3 y4, LeO (walkmilllaw05_TenterOrder.l1 k y0 y1 y2 y3 y4) (walkmilllaw05_TenterOrder.l1 (k + 1) y0 y1 y2 y3 y4)) ∧ (∀ y0 y1 y2 y3 y4, LeO (walkmilllaw05_TenterOrder.l2 k y0 y1 y2 y3 y4) (walkmilllaw05_TenterOrder.l2 (k + 1) y0 y1 y2 y3 y4))
 | 0 => ⟨fun _ _ _ _ _ _ _ _ _ _ _ _ _ r h => by simp [walkmilllaw05_TenterOrder.l0] at h, fun _ _ _ _ _ _ _ _ _ _ _ _ _ _ _ _ _ r h => by simp [walkmilllaw05_TenterOrder.l3] at h, fun _ _ _ _ _ _ _ _ _ _ _ r h => by simp [walkmilllaw05_TenterOrder.l4] at h, fun _ _ _ r h => by simp [walkmilllaw05_TenterOrder.j1] at h, fun _ _ _ _ _ r h => by simp [walkmilllaw05_TenterOrder.l1] at h, fun _ _ _ _ _ r h => by simp [walkmilllaw05_TenterOrder.l2] at h⟩
 | k + 1 => by
  obtain ⟨ih0, ih1, ih2, ih3, ih4, ih5⟩ := walkmilllaw05_TenterOrder.mono_l k
  refine ⟨?_, ?_, ?_, ?_, ?_, ?_⟩
  ·
   intro y0 y1 y2 y3 y4 y5 y6 y7 y8 y9 y10 y11 y12
   unfold walkmilllaw05_TenterOrder.l0
   repeat' first
   | (with_reducible exact ih0 _ _ _ _ _ _ _ _ _ _ _ _ _)
   | (with_reducible exact ih1 _ _ _ _ _ _ _ _ _ _ _ _ _ _ _ _ _)
   | (with_reducible exact ih2 _ _ _ _ _ _ _ _ _ _ _)
   | (with_reducible exact ih3 _ _ _)
   | (with_reducible exact ih4 _ _ _ _ _)
   | (with_reducible exact ih5 _ _ _ _ _)
   | (with_reducible exact tenter_Late.mono _ _ _ _ _ _ _ _)
   | (with_reducible exact tenter_Order.mono _ _ _ _ _ _ _)
   | (with_reducible exact walkmilllaw05_Green_field.mono _ _ _ _ _ _ _ _)
   | (with_reducible exact walkmilllaw05_Green_weather.mono _ _ _ _ _ _ _ _)
   | (with_reducible exact LeO.refl _)
   | (with_reducible exact LeO.none _)
   | (with_reducible refine LeO.ite ?_ ?_)
   | (with_reducible refine LeO.bind ?_ (fun _ => ?_))
   | exact ih0 _ _ _ _ _ _ _ _ _ _ _ _ _
   | exact ih1 _ _ _ _ _ _ _ _ _ _ _ _ _ _ _ _ _
   | exact ih2 _ _ _ _ _ _ _ _ _ _ _
   | exact ih3 _ _ _
   | exact ih4 _ _ _ _ _
   | exact ih5 _ _ _ _ _
   | exact tenter_Late.mono _ _ _ _ _ _ _ _
   | exact tenter_Order.mono _ _ _ _ _ _ _
   | exact walkmilllaw05_Green_field.mono _ _ _ _ _ _ _ _
   | exact walkmilllaw05_Green_weather.mono _ _ _ _ _ _ _ _
   | exact LeO.none _
   | refine LeO.ite ?_ ?_
   | refine LeO.bind ?_ (fun _ => ?_)
  ·
   intro y0 y1 y2 y3 y4 y5 y6 y7 y8 y9 y10 y11 y12 y13 y14 y15 y16
   unfold walkmilllaw05_TenterOrder.l3
   repeat' first
   | (with_reducible exact ih0 _ _ _ _ _ _ _ _ _ _ _ _ _)
   | (with_reducible exact ih1 _ _ _ _ _ _ _ _ _ _ _ _ _ _ _ _ _)
   | (with_reducible exact ih2 _ _ _ _ _ _ _ _ _ _ _)
   | (with_reducible exact ih3 _ _ _)
   | (with_reducible exact ih4 _ _ _ _ _)
   | (with_reducible exact ih5 _ _ _ _ _)
   | (with_reducible exact tenter_Late.mono _ _ _ _ _ _ _ _)
   | (with_reducible exact tenter_Order.mono _ _ _ _ _ _ _)
   | (with_reducible exact walkmilllaw05_Green_field.mono _ _ _ _ _ _ _ _)
   | (with_reducible exact walkmilllaw05_Green_weather.mono _ _ _ _ _ _ _ _)
   | (with_reducible exact LeO.refl _)
   | (with_reducible exact LeO.none _)
   | (with_reducible refine LeO.ite ?_ ?_)
   | (with_reducible refine LeO.bind ?_ (fun _ => ?_))
   | exact ih0 _ _ _ _ _ _ _ _ _ _ _ _ _
   | exact ih1 _ _ _ _ _ _ _ _ _ _ _ _ _ _ _ _ _
   | exact ih2 _ _ _ _ _ _ _ _ _ _ _
   | exact ih3 _ _ _
   | exact ih4 _ _ _ _ _
   | exact ih5 _ _ _ _ _
   | exact tenter_Late.mono _ _ _ _ _ _ _ _
   | exact tenter_Order.mono _ _ _ _ _ _ _
   | exact walkmilllaw05_Green_field.mono _ _ _ _ _ _ _ _
   | exact walkmilllaw05_Green_weather.mono _ _ _ _ _ _ _ _
   | exact LeO.none _
   | refine LeO.ite ?_ ?_
   | refine LeO.bind ?_ (fun _ => ?_)
  ·
   intro y0 y1 y2 y3 y4 y5 y6 y7 y8 y9 y10
   unfold walkmilllaw05_TenterOrder.l4
   repeat' first
   | (with_reducible exact ih0 _ _ _ _ _ _ _ _ _ _ _ _ _)
   | (with_reducible exact ih1 _ _ _ _ _ _ _ _ _ _ _ _ _ _ _ _ _)
   | (with_reducible exact ih2 _ _ _ _ _ _ _ _ _ _ _)
   | (with_reducible exact ih3 _ _ _)
   | (with_reducible exact ih4 _ _ _ _ _)
   | (with_reducible exact ih5 _ _ _ _ _)
   | (with_reducible exact tenter_Late.mono _ _ _ _ _ _ _ _)
   | (with_reducible exact tenter_Order.mono _ _ _ _ _ _ _)
   | (with_reducible exact walkmilllaw05_Green_field.mono _ _ _ _ _ _ _ _)
   | (with_reducible exact walkmilllaw05_Green_weather.mono _ _ _ _ _ _ _ _)
   | (with_reducible exact LeO.refl _)
   | (with_reducible exact LeO.none _)
   | (with_reducible refine LeO.ite ?_ ?_)
   | (with_reducible refine LeO.bind ?_ (fun _ => ?_))
   | exact ih0 _ _ _ _ _ _ _ _ _ _ _ _ _
   | exact ih1 _ _ _ _ _ _ _ _ _ _ _ _ _ _ _ _ _
   | exact ih2 _ _ _ _ _ _ _ _ _ _ _
   | exact ih3 _ _ _
   | exact ih4 _ _ _ _ _
   | exact ih5 _ _ _ _ _
   | exact tenter_Late.mono _ _ _ _ _ _ _ _
   | exact tenter_Order.mono _ _ _ _ _ _ _
   | exact walkmilllaw05_Green_field.mono _ _ _ _ _ _ _ _
   | exact walkmilllaw05_Green_weather.mono _ _ _ _ _ _ _ _
   | exact LeO.none _
   | refine LeO.ite ?_ ?_
   | refine LeO.bind ?_ (fun _ => ?_)
  ·
   intro y0 y1 y2
   unfold walkmilllaw05_TenterOrder.j1
   repeat' first
   | (with_reducible exact ih0 _ _ _ _ _ _ _ _ _ _ _ _ _)
   | (with_reducible exact ih1 _ _ _ _ _ _ _ _ _ _ _ _ _ _ _ _ _)
   | (with_reducible exact ih2 _ _ _ _ _ _ _ _ _ _ _)
   | (with_reducible exact ih3 _ _ _)
   | (with_reducible exact ih4 _ _ _ _ _)
   | (with_reducible exact ih5 _ _ _ _ _)
   | (with_reducible exact tenter_Late.mono _ _ _ _ _ _ _ _)
   | (with_reducible exact tenter_Order.mono _ _ _ _ _ _ _)
   | (with_reducible exact walkmilllaw05_Green_field.mono _ _ _ _ _ _ _ _)
   | (with_reducible exact walkmilllaw05_Green_weather.mono _ _ _ _ _ _ _ _)
   | (with_reducible exact LeO.refl _)
   | (with_reducible exact LeO.none _)
   | (with_reducible refine LeO.ite ?_ ?_)
   | (with_reducible refine LeO.bind ?_ (fun _ => ?_))
   | exact ih0 _ _ _ _ _ _ _ _ _ _ _ _ _
   | exact ih1 _ _ _ _ _ _ _ _ _ _ _ _ _ _ _ _ _
   | exact ih2 _ _ _ _ _ _ _ _ _ _ _
   | exact ih3 _ _ _
   | exact ih4 _ _ _ _ _
   | exact ih5 _ _ _ _ _
   | exact tenter_Late.mono _ _ _ _ _ _ _ _
   | exact tenter_Order.mono _ _ _ _ _ _ _
   | exact walkmilllaw05_Green_field.mono _ _ _ _ _ _ _ _
   | exact walkmilllaw05_Green_weather.mono _ _ _ _ _ _ _ _
   | exact LeO.none _
   | refine LeO.ite ?_ ?_
   | refine LeO.bind ?_ (fun _ => ?_)
  ·
   intro y0 y1 y2 y3 y4
   unfold walkmilllaw05_TenterOrder.l1
   repeat' first
   | (with_reducible exact ih0 _ _ _ _ _ _ _ _ _ _ _ _ _)
   | (with_reducible exact ih1 _ _ _ _ _ _ _ _ _ _ _ _ _ _ _ _ _)
   | (with_reducible exact ih2 _ _ _ _ _ _ _ _ _ _ _)
   | (with_reducible exact ih3 _ _ _)
   | (with_reducible exact ih4 _ _ _ _ _)
   | (with_reducible exact ih5 _ _ _ _ _)
   | (with_reducible exact tenter_Late.mono _ _ _ _ _ _ _ _)
   | (with_reducible exact tenter_Order.mono _ _ _ _ _ _ _)
   | (with_reducible exact walkmilllaw05_Green_field.mono _ _ _ _ _ _ _ _)
   | (with_reducible exact walkmilllaw05_Green_weather.mono _ _ _ _ _ _ _ _)
   | (with_reducible exact LeO.refl _)
   | (with_reducible exact LeO.none _)
   | (with_reducible refine LeO.ite ?_ ?_)
   | (with_reducible refine LeO.bind ?_ (fun _ => ?_))
   | exact ih0 _ _ _ _ _ _ _ _ _ _ _ _ _
   | exact ih1 _ _ _ _ _ _ _ _ _ _ _ _ _ _ _ _ _
   | exact ih2 _ _ _ _ _ _ _ _ _ _ _
   | exact ih3 _ _ _
   | exact ih4 _ _ _ _ _
   | exact ih5 _ _ _ _ _
   | exact tenter_Late.mono _ _ _ _ _ _ _ _
   | exact tenter_Order.mono _ _ _ _ _ _ _
   | exact walkmilllaw05_Green_field.mono _ _ _ _ _ _ _ _
   | exact walkmilllaw05_Green_weather.mono _ _ _ _ _ _ _ _
   | exact LeO.none _
   | refine LeO.ite ?_ ?_
   | refine LeO.bind ?_ (fun _ => ?_)
  ·
   intro y0 y1 y2 y3 y4
   unfold walkmilllaw05_TenterOrder.l2
   repeat' first
   | (with_reducible exact ih0 _ _ _ _ _ _ _ _ _ _ _ _ _)
   | (with_reducible exact ih1 _ _ _ _ _ _ _ _ _ _ _ _ _ _ _ _ _)
   | (with_reducible exact ih2 _ _ _ _ _ _ _ _ _ _ _)
   | (with_reducible exact ih3 _ _ _)
   | (with_reducible exact ih4 _ _ _ _ _)
   | (with_reducible exact ih5 _ _ _ _ _)
   | (with_reducible exact tenter_Late.mono _ _ _ _ _ _ _ _)
   | (with_reducible exact tenter_Order.mono _ _ _ _ _ _ _)
   | (with_reducible exact walkmilllaw05_Green_field.mono _ _ _ _ _ _ _ _)
   | (with_reducible exact walkmilllaw05_Green_weather.mono _ _ _ _ _ _ _ _)
   | (with_reducible exact LeO.refl _)
   | (with_reducible exact LeO.none _)
   | (with_reducible refine LeO.ite ?_ ?_)
   | (with_reducible refine LeO.bind ?_ (fun _ => ?_))
   | exact ih0 _ _ _ _ _ _ _ _ _ _ _ _ _
   | exact ih1 _ _ _ _ _ _ _ _ _ _ _ _ _ _ _ _ _
   | exact ih2 _ _ _ _ _ _ _ _ _ _ _
   | exact ih3 _ _ _
   | exact ih4 _ _ _ _ _
   | exact ih5 _ _ _ _ _
   | exact tenter_Late.mono _ _ _ _ _ _ _ _
   | exact tenter_Order.mono _ _ _ _ _ _ _
   | exact walkmilllaw05_Green_field.mono _ _ _ _ _ _ _ _
   | exact walkmilllaw05_Green_weather.mono _ _ _ _ _ _ _ _
   | exact LeO.none _
   | refine LeO.ite ?_ ?_
   | refine LeO.bind ?_ (fun _ => ?_)
theorem walkmilllaw05_TenterOrder.dead_j1 : ∀ k y0 y1 r, walkmilllaw05_TenterOrder.j1 k y0 y1 true = some r → r = true → False := by
 intro k y0 y1 r h hr
 cases k with
 | zero => simp [walkmilllaw05_TenterOrder.j1] at h
 | succ k => exact absurd ((Option.some.inj (show (some false : Option Bool) = some r from h)).trans hr) (by simp)
theorem walkmilllaw05_TenterOrder.mono : ∀ a0 a1 a2 a3 a4 a5 a6 a7 a8 a9 k, LeO (walkmilllaw05_TenterOrder.f k a0 a1 a2 a3 a4 a5 a6 a7 a8 a9) (walkmilllaw05_TenterOrder.f (k + 1) a0 a1 a2 a3 a4 a5 a6 a7 a8 a9) := by
 intro a0 a1 a2 a3 a4 a5 a6 a7 a8 a9 k
 obtain ⟨ih0, ih1, ih2, ih3, ih4, ih5⟩ := walkmilllaw05_TenterOrder.mono_l k
 unfold walkmilllaw05_TenterOrder.f
 repeat' first
   | (with_reducible exact ih0 _ _ _ _ _ _ _ _ _ _ _ _ _)
   | (with_reducible exact ih1 _ _ _ _ _ _ _ _ _ _ _ _ _ _ _ _ _)
   | (with_reducible exact ih2 _ _ _ _ _ _ _ _ _ _ _)
   | (with_reducible exact ih3 _ _ _)
   | (with_reducible exact ih4 _ _ _ _ _)
   | (with_reducible exact ih5 _ _ _ _ _)
   | (with_reducible exact tenter_Late.mono _ _ _ _ _ _ _ _)
   | (with_reducible exact tenter_Order.mono _ _ _ _ _ _ _)
   | (with_reducible exact walkmilllaw05_Green_field.mono _ _ _ _ _ _ _ _)
   | (with_reducible exact walkmilllaw05_Green_weather.mono _ _ _ _ _ _ _ _)
   | (with_reducible exact LeO.refl _)
   | (with_reducible exact LeO.none _)
   | (with_reducible refine LeO.ite ?_ ?_)
   | (with_reducible refine LeO.bind ?_ (fun _ => ?_))
   | exact ih0 _ _ _ _ _ _ _ _ _ _ _ _ _
   | exact ih1 _ _ _ _ _ _ _ _ _ _ _ _ _ _ _ _ _
   | exact ih2 _ _ _ _ _ _ _ _ _ _ _
   | exact ih3 _ _ _
   | exact ih4 _ _ _ _ _
   | exact ih5 _ _ _ _ _
   | exact tenter_Late.mono _ _ _ _ _ _ _ _
   | exact tenter_Order.mono _ _ _ _ _ _ _
   | exact walkmilllaw05_Green_field.mono _ _ _ _ _ _ _ _
   | exact walkmilllaw05_Green_weather.mono _ _ _ _ _ _ _ _
   | exact LeO.none _
   | refine LeO.ite ?_ ?_
   | refine LeO.bind ?_ (fun _ => ?_)
def walkmilllaw05_TenterOrder.T25 : Bool × List (List Nat × List Nat) := (true, [([], []), ([], []), ([], []), ([1, 2], [1, 2]), ([0, 3], [0, 3]), ([], []), ([], []), ([6], [6]), ([5, 7], [5, 7]), ([4, 8, 4], [4, 8]), ([9, 9, 0, 1, 2, 3, 4, 5, 6, 7, 8, 9], [1, 5, 9])])
def walkmilllaw05_TenterOrder.B25 : List Nat := [0, 0, 0, 6, 15, 0, 0, 64, 224, 511, 1023]
theorem walkmilllaw05_TenterOrder.tab25 : rtab .any (opsOf Tryd.f6 25) = walkmilllaw05_TenterOrder.T25 := by kernel_rfl
theorem walkmilllaw05_TenterOrder.bits25 : waitsOk walkmilllaw05_TenterOrder.T25.2 walkmilllaw05_TenterOrder.B25 = true := by kernel_rfl
def walkmilllaw05_TenterOrder.T40 : Bool × List (List Nat × List Nat) := (true, [([], []), ([], []), ([], []), ([], []), ([2, 3], [2, 3]), ([4], [4]), ([5], [5]), ([], []), ([7], [7]), ([8], [8]), ([9], [9]), ([6, 10], [6, 10]), ([11], [11]), ([], []), ([], []), ([13, 14], [13, 14]), ([15], [15]), ([16], [16]), ([], []), ([18], [18]), ([19], [19]), ([20], [20]), ([17, 21], [17, 21]), ([22], [22]), ([12, 23], [12, 23]), ([0, 1, 0, 1, 2, 3, 4, 5, 6, 7, 8, 9, 10, 11, 12, 13, 14, 15, 16, 17, 18, 19, 20, 21, 22, 23, 24], [0, 1]), ([25, 24, 24, 0, 1, 2, 3, 4, 5, 6, 7, 8, 9, 10, 11, 12, 13, 14, 15, 16, 17, 18, 19, 20, 21, 22, 23, 24], [24, 25])])
def walkmilllaw05_TenterOrder.B40 : List Nat := [0, 0, 0, 0, 12, 28, 60, 0, 128, 384, 896, 2044, 4092, 0, 0, 24576, 57344, 122880, 0, 262144, 786432, 1835008, 4186112, 8380416, 16777212, 33554431, 67108863]
theorem walkmilllaw05_TenterOrder.tab40 : rtab .any (opsOf Tryd.f6 40) = walkmilllaw05_TenterOrder.T40 := by kernel_rfl
theorem walkmilllaw05_TenterOrder.bits40 : waitsOk walkmilllaw05_TenterOrder.T40.2 walkmilllaw05_TenterOrder.B40 = true := by kernel_rfl
set_option maxHeartbeats 8000000 in
set_option maxRecDepth 100000 in
theorem walkmilllaw05_TenterOrder.calls_true (k : Nat) (A0_0 : Option Addr) (c0_0 : Nat) (l0_0 : List (S71)) (a0_1 : Int) (a0_2 : Int) (a0_3 : Int) (a0_4 : Int) (a0_5 : Int) (A0_6 : Option Addr) (c0_6 : Nat) (l0_6 : List (S65)) (A1 : Option Addr) (c1 : Nat) (l1 : List Int) (a2_0 : Int) (a2_1 : Int) (r : Bool) (w : World) (hr0_0 : Kd.C k71 w A0_0 l0_0.length l0_0) (hc0_0 : l0_0.length ≤ c0_0) (hr0_6 : Kd.C k65 w A0_6 l0_6.length l0_6) (hc0_6 : l0_6.length ≤ c0_6) (hr1 : Kd.C (Kd.int .u8) w A1 l1.length l1) (hc1 : l1.length ≤ c1) (hrt : r = true) (hLd : LaidT w) (h : walkmilllaw05_TenterOrder.f k l0_0 a0_1 a0_2 a0_3 a0_4 a0_5 l0_6 l1 a2_0 a2_1 = some r) :
  Calls Tryd.prog 6 #[.agg #[.slice A0_0 l0_0.length c0_0, .int .u8 a0_1, .int .u8 a0_2, .int .u8 a0_3, .int .u8 a0_4, .int .u8 a0_5, .slice A0_6 l0_6.length c0_6], .slice A1 l1.length c1, .agg #[.int .u8 a2_0, .int .u8 a2_1]] w fun e w' => e = .returned (.bool r) ∧ Below w.heap.size w w' := by
 have hu26 := Tryd.underlying26
 have hu65 := Tryd.underlying65
 have hu32 := Tryd.underlying32
 have hu59 := Tryd.underlying59
 have hu40 := Tryd.underlying40
 have HRT := Aside0.mk hrt
 clear hrt
 have HR0_0 := Aside0.mk hr0_0
 have HC0_0 := Aside0.mk hc0_0
 clear hr0_0 hc0_0
 have HR0_6 := Aside0.mk hr0_6
 have HC0_6 := Aside0.mk hc0_6
 clear hr0_6 hc0_6
 have HR1 := Aside0.mk hr1
 have HC1 := Aside0.mk hc1
 clear hr1 hc1
 have HLd := Aside0.mk hLd
 clear hLd
 have HB := Aside0.mk (Below.refl w.heap.size w)
 have H : ((walkmilllaw05_Green_field.f k l0_0 a0_1 a0_2 a0_3 a0_4 a0_5 l0_6).bind fun bt103 => ((walkmilllaw05_Green_weather.f k l0_0 a0_1 a0_2 a0_3 a0_4 a0_5 l0_6).bind fun t111 => (if (wrap64 ((t111.length : Int) + 1)) = 0 then (none) else ((walkmilllaw05_own.f bt103.1 bt103.2.1 bt103.2.2.1 bt103.2.2.2).bind fun bt115 => ((walkmilllaw05_spans.f t111).bind fun t123 => ((tenter_Order.f k bt115.1 bt115.2.1 bt115.2.2.1 bt115.2.2.2 t123 (Int.tmod (wrap64 (a2_0)) (wrap64 ((t111.length : Int) + 1)))).bind fun bt126 => (walkmilllaw05_TenterOrder.l0 k l1 t111 (Int.tmod (wrap64 (a2_0)) (wrap64 ((t111.length : Int) + 1))) bt126.1 bt126.2 (([] : List Int)) 0 a2_0 a2_1 bt103.1 bt103.2.1 bt103.2.2.1 bt103.2.2.2))))))) = some r := h
 clear h
 obtain ⟨⟨t103, t106, t109, t110⟩, A4, H⟩ := bi H
 obtain ⟨t111, A5, H⟩ := bi H
 by_cases c6 : (wrap64 ((t111.length : Int) + 1)) = 0
 ·
  rw [if_pos c6] at H
  exact absurd H (by simp)
 ·
  rw [if_neg c6] at H
  have c6b0 : ((wrap64 ((t111.length : Int) + 1)) == 0) = false := beq_eq_false_iff_ne.mpr c6
  have c6b1 : ((wrap64 ((t111.length : Int) + 1)) != 0) = true := bne_iff_ne.mpr c6
  obtain ⟨⟨t115, t118, t121, t122⟩, A7, H⟩ := bi H
  obtain ⟨t123, A8, H⟩ := bi H
  obtain ⟨⟨t126, t129⟩, A9, H⟩ := bi H
  obtain ⟨y130, hy130⟩ : ∃ y_ : List Int, y_ = (([] : List Int)) := ⟨_, rfl⟩
  replace H : (walkmilllaw05_TenterOrder.l0 k l1 t111 (Int.tmod (wrap64 (a2_0)) (wrap64 ((t111.length : Int) + 1))) t126 t129 y130 0 a2_0 a2_1 t103 t106 t109 t110) = some r := yy hy130 H
  have Ny130 := Aside0.mk hy130
  clear hy130
  have H' := Aside0.mk H
  clear H
  go_enter Tryd.func6, Tryd.ntmps6
  try go_wp2_with (first | ((with_reducible refine gate_dst (N := 3) rfl ?_); (try (refine gate_guard (by rfl) ?_; dsimp only)); refine bx 3 #[.slice A0_0 l0_0.length c0_0, .int .u8 a0_1, .int .u8 a0_2, .int .u8 a0_3, .int .u8 a0_4, .int .u8 a0_5, .slice A0_6 l0_6.length c0_6] 26 ?_; intro gb101 hg w10 hbox hb; have BK101 := hbox; have GW101 := gs HB hg; have GE101 := gs HB hg; replace HB := bs HB hb; clear hb hbox hg) | ((with_reducible refine gate_dst (N := 5) rfl ?_); (try (refine gate_guard (by rfl) ?_; dsimp only)); refine bx 5 #[.int .u8 a2_0, .int .u8 a2_1] 65 ?_; intro gb102 hg w11 hbox hb; have BK102 := hbox; have GW102 := gs HB hg; have GE102 := gs HB hg; replace HB := bs HB hb; have NB101_102 := nl BK101 hg; have NB102_101 := nr BK101 hg; replace BK101 := bb BK101 hb; clear hb hbox hg))
  replace BK101 := Aside0.mk (blk_drew BK101.out)
  replace BK102 := Aside0.mk (blk_drew BK102.out)
  replace HB := Aside0.mk (below_drew1 HB.out)
  refine start_ (n := 7) (S := fun w' => w'.cell? ⟨gb101, 0, none⟩ = some (.slice A0_0 l0_0.length c0_0) ∧ w'.cell? ⟨gb101, 1, none⟩ = some (.int .u8 a0_1) ∧ w'.cell? ⟨gb101, 2, none⟩ = some (.int .u8 a0_2) ∧ w'.cell? ⟨gb101, 3, none⟩ = some (.int .u8 a0_3) ∧ w'.cell? ⟨gb101, 4, none⟩ = some (.int .u8 a0_4) ∧ w'.cell? ⟨gb101, 5, none⟩ = some (.int .u8 a0_5) ∧ w'.cell? ⟨gb101, 6, none⟩ = some (.slice A0_6 l0_6.length c0_6)) (ds := []) #[false, false, false, false, false, false, false] (by kernel_rfl) rfl rfl ⟨(blk_cell BK101.out 0).trans rfl, (blk_cell BK101.out 1).trans rfl, (blk_cell BK101.out 2).trans rfl, (blk_cell BK101.out 3).trans rfl, (blk_cell BK101.out 4).trans rfl, (blk_cell BK101.out 5).trans rfl, (blk_cell BK101.out 6).trans rfl⟩ (fun hHeld => ?_)
  generalize w11.drew = w12 at BK101 BK102 HB hHeld ⊢
  refine tk 0 30 hHeld ?_
  refine tk 2 32 hHeld ?_
  refine join_ (σ := Value × Value × Value × Nat) 2 #[true, true, true, true, true, false, false] (fun s_ => [(31, .agg #[s_.1, s_.2.1, .int .i64 t109, .int .i64 t110]), (33, s_.2.2.1), (7, .pointer (some ⟨s_.2.2.2, 0, none⟩))]) (fun s_ w' => (w'.cell? ⟨gb101, 0, none⟩ = some (.slice A0_0 l0_0.length c0_0) ∧ w'.cell? ⟨gb101, 1, none⟩ = some (.int .u8 a0_1) ∧ w'.cell? ⟨gb101, 2, none⟩ = some (.int .u8 a0_2) ∧ w'.cell? ⟨gb101, 3, none⟩ = some (.int .u8 a0_3) ∧ w'.cell? ⟨gb101, 4, none⟩ = some (.int .u8 a0_4) ∧ w'.cell? ⟨gb101, 5, none⟩ = some (.int .u8 a0_5) ∧ w'.cell? ⟨gb101, 6, none⟩ = some (.slice A0_6 l0_6.length c0_6)) ∧ (Kd.R k42 42 w' w.heap.size (fun _ => True) s_.1 t103) ∧ (Kd.R (Kd.int .i64) 3 w' w.heap.size (fun _ => True) s_.2.1 t106) ∧ (Kd.R k40 40 w' w.heap.size (fun _ => True) s_.2.2.1 t111) ∧ (w'.heap[gb101]? = some (.cells #[.slice A0_0 l0_0.length c0_0, .int .u8 a0_1, .int .u8 a0_2, .int .u8 a0_3, .int .u8 a0_4, .int .u8 a0_5, .slice A0_6 l0_6.length c0_6] 26 (0, 0))) ∧ (w'.heap[gb102]? = some (.cells #[.int .u8 a2_0, .int .u8 a2_1] 65 (0, 0))) ∧ (w'.heap[s_.2.2.2]? = some (.cells #[.slice none 0 0, .slice none 0 0, .int .i64 0, .int .i64 0] 32 (0, 0))) ∧ (w.heap.size ≤ s_.2.2.2) ∧ (w.heap.size ≤ s_.2.2.2) ∧ (gb101 ≠ s_.2.2.2) ∧ (s_.2.2.2 ≠ gb101) ∧ (gb102 ≠ s_.2.2.2) ∧ (s_.2.2.2 ≠ gb102) ∧ (Below w.heap.size w w')) ?_ ?_
  rotate_left
  ·
   intro hCont
   refine two_ (i := 1) (j := 4) (Ni := some 31) (Nj := some 7) #[true, true, true, false, false, false, false] #[true, false, true, false, true, false, false] rfl rfl rfl rfl (by kernel_rfl) (by decide) (by decide) (fun K hK => ?_) (fun K hK => ?_)
   ·
    skip
    refine gO Tryd.func7 #[.agg #[.slice A0_0 l0_0.length c0_0, .int .u8 a0_1, .int .u8 a0_2, .int .u8 a0_3, .int .u8 a0_4, .int .u8 a0_5, .slice A0_6 l0_6.length c0_6]] ?_
    with_reducible refine (walkmilllaw05_Green_field.calls k _ _ l0_0 a0_1 a0_2 a0_3 a0_4 a0_5 _ _ l0_6 t103 t106 t109 t110 _ ?side1 ?side2 ?side3 ?side4 A4.out).mono ?_
    (case side1 => exact pC (Kd.C_below HR0_0.out HB.out))
    (case side2 => exact HC0_0.out)
    (case side3 => exact pC (Kd.C_below HR0_6.out HB.out))
    (case side4 => exact HC0_6.out)
    rintro e w13 ⟨v104, v107, rfl, ho0, ho1, hb⟩
    refine ⟨_, rfl, ?_⟩
    have HO105 := rl ho0 HB
    have HO108 := rl ho1 HB
    replace BK101 := bb BK101 hb
    replace BK102 := bb BK102 hb
    replace HB := bs HB hb
    (try clear hb)
    (try clear hb2)
    (try clear hk)
    (try clear hi)
    (try clear ho0)
    (try clear ho1)
    refine hK.out _ _ ⟨(blk_cell BK101.out 0).trans rfl, (blk_cell BK101.out 1).trans rfl, (blk_cell BK101.out 2).trans rfl, (blk_cell BK101.out 3).trans rfl, (blk_cell BK101.out 4).trans rfl, (blk_cell BK101.out 5).trans rfl, (blk_cell BK101.out 6).trans rfl⟩ (fun hHeld => ?_)
    clear hK K
    refine norm_ (a' := ?_) ?_ ?_
    rotate_left
    ·
     show Act.put _ (some 31) _ = _
     simp only [Act.put, List.setIfInBounds_toArray, List.set_cons_zero, List.set_cons_succ, i64_w, i32_w]
     rfl
    refine two_ (i := 3) (j := 4) (Ni := some 33) (Nj := some 7) #[true, true, true, true, false, false, false] #[true, true, true, false, true, false, false] rfl rfl rfl rfl (by kernel_rfl) (by decide) (by decide) (fun K hK => ?_) (fun K hK => ?_)
    ·
     skip
     refine gO Tryd.func22 #[.agg #[.slice A0_0 l0_0.length c0_0, .int .u8 a0_1, .int .u8 a0_2, .int .u8 a0_3, .int .u8 a0_4, .int .u8 a0_5, .slice A0_6 l0_6.length c0_6]] ?_
     with_reducible refine (walkmilllaw05_Green_weather.calls k _ _ l0_0 a0_1 a0_2 a0_3 a0_4 a0_5 _ _ l0_6 t111 _ ?side1 ?side2 ?side3 ?side4 A5.out).mono ?_
     (case side1 => exact pC (Kd.C_below HR0_0.out HB.out))
     (case side2 => exact HC0_0.out)
     (case side3 => exact pC (Kd.C_below HR0_6.out HB.out))
     (case side4 => exact HC0_6.out)
     rintro e w14 ⟨v112, rfl, ho0, hb⟩
     refine ⟨_, rfl, ?_⟩
     replace HO105 := rb HO105 hb
     replace HO108 := rb HO108 hb
     have HO113 := rl ho0 HB
     replace BK101 := bb BK101 hb
     replace BK102 := bb BK102 hb
     replace HB := bs HB hb
     (try clear hb)
     (try clear hb2)
     (try clear hk)
     (try clear hi)
     (try clear ho0)
     refine hK.out _ _ ⟨(blk_cell BK101.out 0).trans rfl, (blk_cell BK101.out 1).trans rfl, (blk_cell BK101.out 2).trans rfl, (blk_cell BK101.out 3).trans rfl, (blk_cell BK101.out 4).trans rfl, (blk_cell BK101.out 5).trans rfl, (blk_cell BK101.out 6).trans rfl⟩ (fun hHeld => ?_)
     clear hK K
     refine norm_ (a' := ?_) ?_ ?_
     rotate_left
     ·
      show Act.put _ (some 33) _ = _
      simp only [Act.put, List.setIfInBounds_toArray, List.set_cons_zero, List.set_cons_succ, i64_w, i32_w]
      rfl
     refine on 4 (fun K hK => ?_)
     refine box_step ?hg (N := 7) ?hd (cs := #[.slice none 0 0, .slice none 0 0, .int .i64 0, .int .i64 0]) (t := 32) ?hr ?_; (case hd => rfl); (case hg => rfl); (case hr => first | (go_simp; done) | (go_simp; rfl))
     intro gb114 hg w15 hbox hb
     replace HO105 := rb HO105 hb
     replace HO108 := rb HO108 hb
     replace HO113 := rb HO113 hb
     have BK114 := Aside0.mk (hbox)
     have GW114 := gs HB hg
     have GE114 := gs HB hg
     replace HB := bs HB hb
     have NB101_114 := nl BK101 hg
     have NB114_101 := nr BK101 hg
     replace BK101 := bb BK101 hb
     have NB102_114 := nl BK102 hg
     have NB114_102 := nr BK102 hg
     replace BK102 := bb BK102 hb
     clear hb hbox hg
     refine hK.out _ _ ⟨(blk_cell BK101.out 0).trans rfl, (blk_cell BK101.out 1).trans rfl, (blk_cell BK101.out 2).trans rfl, (blk_cell BK101.out 3).trans rfl, (blk_cell BK101.out 4).trans rfl, (blk_cell BK101.out 5).trans rfl, (blk_cell BK101.out 6).trans rfl⟩ (fun hHeld => ?_)
     clear hK K
     refine norm_ (a' := ?_) ?_ ?_
     rotate_left
     ·
      show Act.put _ (some 7) _ = _
      simp only [Act.put, List.setIfInBounds_toArray, List.set_cons_zero, List.set_cons_succ, i64_w, i32_w]
      rfl
     exact norm_ (by simp only [putAll, Act.put, List.setIfInBounds_toArray, List.set_cons_zero, List.set_cons_succ]) (hCont (v104, v107, v112, gb114) _ ⟨hHeld, (pR HO105.out), (pR HO108.out), (pR HO113.out), (pB BK101.out), (pB BK102.out), (pB BK114.out), GW114.out, GE114.out, NB101_114.out, NB114_101.out, NB102_114.out, NB114_102.out, (pE HB)⟩)
    ·
     skip
     refine box_step ?hg (N := 7) ?hd (cs := #[.slice none 0 0, .slice none 0 0, .int .i64 0, .int .i64 0]) (t := 32) ?hr ?_; (case hd => rfl); (case hg => rfl); (case hr => first | (go_simp; done) | (go_simp; rfl))
     intro gb114 hg w14 hbox hb
     replace HO105 := rb HO105 hb
     replace HO108 := rb HO108 hb
     have BK114 := Aside0.mk (hbox)
     have GW114 := gs HB hg
     have GE114 := gs HB hg
     replace HB := bs HB hb
     have NB101_114 := nl BK101 hg
     have NB114_101 := nr BK101 hg
     replace BK101 := bb BK101 hb
     have NB102_114 := nl BK102 hg
     have NB114_102 := nr BK102 hg
     replace BK102 := bb BK102 hb
     clear hb hbox hg
     refine hK.out _ _ ⟨(blk_cell BK101.out 0).trans rfl, (blk_cell BK101.out 1).trans rfl, (blk_cell BK101.out 2).trans rfl, (blk_cell BK101.out 3).trans rfl, (blk_cell BK101.out 4).trans rfl, (blk_cell BK101.out 5).trans rfl, (blk_cell BK101.out 6).trans rfl⟩ (fun hHeld => ?_)
     clear hK K
     refine norm_ (a' := ?_) ?_ ?_
     rotate_left
     ·
      show Act.put _ (some 7) _ = _
      simp only [Act.put, List.setIfInBounds_toArray, List.set_cons_zero, List.set_cons_succ, i64_w, i32_w]
      rfl
     refine on 3 (fun K hK => ?_)
     refine gO Tryd.func22 #[.agg #[.slice A0_0 l0_0.length c0_0, .int .u8 a0_1, .int .u8 a0_2, .int .u8 a0_3, .int .u8 a0_4, .int .u8 a0_5, .slice A0_6 l0_6.length c0_6]] ?_
     with_reducible refine (walkmilllaw05_Green_weather.calls k _ _ l0_0 a0_1 a0_2 a0_3 a0_4 a0_5 _ _ l0_6 t111 _ ?side1 ?side2 ?side3 ?side4 A5.out).mono ?_
     (case side1 => exact pC (Kd.C_below HR0_0.out HB.out))
     (case side2 => exact HC0_0.out)
     (case side3 => exact pC (Kd.C_below HR0_6.out HB.out))
     (case side4 => exact HC0_6.out)
     rintro e w15 ⟨v112, rfl, ho0, hb⟩
     refine ⟨_, rfl, ?_⟩
     replace HO105 := rb HO105 hb
     replace HO108 := rb HO108 hb
     have HO113 := rl ho0 HB
     replace BK101 := bb BK101 hb
     replace BK102 := bb BK102 hb
     replace BK114 := bb BK114 hb
     replace HB := bs HB hb
     (try clear hb)
     (try clear hb2)
     (try clear hk)
     (try clear hi)
     (try clear ho0)
     refine hK.out _ _ ⟨(blk_cell BK101.out 0).trans rfl, (blk_cell BK101.out 1).trans rfl, (blk_cell BK101.out 2).trans rfl, (blk_cell BK101.out 3).trans rfl, (blk_cell BK101.out 4).trans rfl, (blk_cell BK101.out 5).trans rfl, (blk_cell BK101.out 6).trans rfl⟩ (fun hHeld => ?_)
     clear hK K
     refine norm_ (a' := ?_) ?_ ?_
     rotate_left
     ·
      show Act.put _ (some 33) _ = _
      simp only [Act.put, List.setIfInBounds_toArray, List.set_cons_zero, List.set_cons_succ, i64_w, i32_w]
      rfl
     exact norm_ (by simp only [putAll, Act.put, List.setIfInBounds_toArray, List.set_cons_zero, List.set_cons_succ]) (hCont (v104, v107, v112, gb114) _ ⟨hHeld, (pR HO105.out), (pR HO108.out), (pR HO113.out), (pB BK101.out), (pB BK102.out), (pB BK114.out), GW114.out, GE114.out, NB101_114.out, NB114_101.out, NB102_114.out, NB114_102.out, (pE HB)⟩)
   ·
    skip
    refine box_step ?hg (N := 7) ?hd (cs := #[.slice none 0 0, .slice none 0 0, .int .i64 0, .int .i64 0]) (t := 32) ?hr ?_; (case hd => rfl); (case hg => rfl); (case hr => first | (go_simp; done) | (go_simp; rfl))
    intro gb114 hg w13 hbox hb
    have BK114 := Aside0.mk (hbox)
    have GW114 := gs HB hg
    have GE114 := gs HB hg
    replace HB := bs HB hb
    have NB101_114 := nl BK101 hg
    have NB114_101 := nr BK101 hg
    replace BK101 := bb BK101 hb
    have NB102_114 := nl BK102 hg
    have NB114_102 := nr BK102 hg
    replace BK102 := bb BK102 hb
    clear hb hbox hg
    refine hK.out _ _ ⟨(blk_cell BK101.out 0).trans rfl, (blk_cell BK101.out 1).trans rfl, (blk_cell BK101.out 2).trans rfl, (blk_cell BK101.out 3).trans rfl, (blk_cell BK101.out 4).trans rfl, (blk_cell BK101.out 5).trans rfl, (blk_cell BK101.out 6).trans rfl⟩ (fun hHeld => ?_)
    clear hK K
    refine norm_ (a' := ?_) ?_ ?_
    rotate_left
    ·
     show Act.put _ (some 7) _ = _
     simp only [Act.put, List.setIfInBounds_toArray, List.set_cons_zero, List.set_cons_succ, i64_w, i32_w]
     rfl
    refine on 1 (fun K hK => ?_)
    refine gO Tryd.func7 #[.agg #[.slice A0_0 l0_0.length c0_0, .int .u8 a0_1, .int .u8 a0_2, .int .u8 a0_3, .int .u8 a0_4, .int .u8 a0_5, .slice A0_6 l0_6.length c0_6]] ?_
    with_reducible refine (walkmilllaw05_Green_field.calls k _ _ l0_0 a0_1 a0_2 a0_3 a0_4 a0_5 _ _ l0_6 t103 t106 t109 t110 _ ?side1 ?side2 ?side3 ?side4 A4.out).mono ?_
    (case side1 => exact pC (Kd.C_below HR0_0.out HB.out))
    (case side2 => exact HC0_0.out)
    (case side3 => exact pC (Kd.C_below HR0_6.out HB.out))
    (case side4 => exact HC0_6.out)
    rintro e w14 ⟨v104, v107, rfl, ho0, ho1, hb⟩
    refine ⟨_, rfl, ?_⟩
    have HO105 := rl ho0 HB
    have HO108 := rl ho1 HB
    replace BK101 := bb BK101 hb
    replace BK102 := bb BK102 hb
    replace BK114 := bb BK114 hb
    replace HB := bs HB hb
    (try clear hb)
    (try clear hb2)
    (try clear hk)
    (try clear hi)
    (try clear ho0)
    (try clear ho1)
    refine hK.out _ _ ⟨(blk_cell BK101.out 0).trans rfl, (blk_cell BK101.out 1).trans rfl, (blk_cell BK101.out 2).trans rfl, (blk_cell BK101.out 3).trans rfl, (blk_cell BK101.out 4).trans rfl, (blk_cell BK101.out 5).trans rfl, (blk_cell BK101.out 6).trans rfl⟩ (fun hHeld => ?_)
    clear hK K
    refine norm_ (a' := ?_) ?_ ?_
    rotate_left
    ·
     show Act.put _ (some 31) _ = _
     simp only [Act.put, List.setIfInBounds_toArray, List.set_cons_zero, List.set_cons_succ, i64_w, i32_w]
     rfl
    refine on 3 (fun K hK => ?_)
    refine gO Tryd.func22 #[.agg #[.slice A0_0 l0_0.length c0_0, .int .u8 a0_1, .int .u8 a0_2, .int .u8 a0_3, .int .u8 a0_4, .int .u8 a0_5, .slice A0_6 l0_6.length c0_6]] ?_
    with_reducible refine (walkmilllaw05_Green_weather.calls k _ _ l0_0 a0_1 a0_2 a0_3 a0_4 a0_5 _ _ l0_6 t111 _ ?side1 ?side2 ?side3 ?side4 A5.out).mono ?_
    (case side1 => exact pC (Kd.C_below HR0_0.out HB.out))
    (case side2 => exact HC0_0.out)
    (case side3 => exact pC (Kd.C_below HR0_6.out HB.out))
    (case side4 => exact HC0_6.out)
    rintro e w15 ⟨v112, rfl, ho0, hb⟩
    refine ⟨_, rfl, ?_⟩
    replace HO105 := rb HO105 hb
    replace HO108 := rb HO108 hb
    have HO113 := rl ho0 HB
    replace BK101 := bb BK101 hb
    replace BK102 := bb BK102 hb
    replace BK114 := bb BK114 hb
    replace HB := bs HB hb
    (try clear hb)
    (try clear hb2)
    (try clear hk)
    (try clear hi)
    (try clear ho0)
    refine hK.out _ _ ⟨(blk_cell BK101.out 0).trans rfl, (blk_cell BK101.out 1).trans rfl, (blk_cell BK101.out 2).trans rfl, (blk_cell BK101.out 3).trans rfl, (blk_cell BK101.out 4).trans rfl, (blk_cell BK101.out 5).trans rfl, (blk_cell BK101.out 6).trans rfl⟩ (fun hHeld => ?_)
    clear hK K
    refine norm_ (a' := ?_) ?_ ?_
    rotate_left
    ·
     show Act.put _ (some 33) _ = _
     simp only [Act.put, List.setIfInBounds_toArray, List.set_cons_zero, List.set_cons_succ, i64_w, i32_w]
     rfl
    exact norm_ (by simp only [putAll, Act.put, List.setIfInBounds_toArray, List.set_cons_zero, List.set_cons_succ]) (hCont (v104, v107, v112, gb114) _ ⟨hHeld, (pR HO105.out), (pR HO108.out), (pR HO113.out), (pB BK101.out), (pB BK102.out), (pB BK114.out), GW114.out, GE114.out, NB101_114.out, NB114_101.out, NB102_114.out, NB114_102.out, (pE HB)⟩)
  rintro ⟨v104, v107, v112, gb114⟩ w16 ⟨hS_, h0_, h1_, h2_, h3_, h4_, h5_, h6_, h7_, h8_, h9_, h10_, h11_, h12_⟩
  have n0_ : Aside0 (Kd.R k42 42 w16 w.heap.size (fun _ => True) v104 t103) := ⟨h0_⟩
  have n1_ : Aside0 (Kd.R (Kd.int .i64) 3 w16 w.heap.size (fun _ => True) v107 t106) := ⟨h1_⟩
  have n2_ : Aside0 (Kd.R k40 40 w16 w.heap.size (fun _ => True) v112 t111) := ⟨h2_⟩
  have n3_ : Aside0 (w16.heap[gb101]? = some (.cells #[.slice A0_0 l0_0.length c0_0, .int .u8 a0_1, .int .u8 a0_2, .int .u8 a0_3, .int .u8 a0_4, .int .u8 a0_5, .slice A0_6 l0_6.length c0_6] 26 (0, 0))) := ⟨h3_⟩
  have n4_ : Aside0 (w16.heap[gb102]? = some (.cells #[.int .u8 a2_0, .int .u8 a2_1] 65 (0, 0))) := ⟨h4_⟩
  have n5_ : Aside0 (w16.heap[gb114]? = some (.cells #[.slice none 0 0, .slice none 0 0, .int .i64 0, .int .i64 0] 32 (0, 0))) := ⟨h5_⟩
  have n6_ : Aside0 (w.heap.size ≤ gb114) := ⟨h6_⟩
  have n7_ : Aside0 (w.heap.size ≤ gb114) := ⟨h7_⟩
  have n8_ : Aside0 (gb101 ≠ gb114) := ⟨h8_⟩
  have n9_ : Aside0 (gb114 ≠ gb101) := ⟨h9_⟩
  have n10_ : Aside0 (gb102 ≠ gb114) := ⟨h10_⟩
  have n11_ : Aside0 (gb114 ≠ gb102) := ⟨h11_⟩
  have n12_ : Aside0 (Below w.heap.size w w16) := ⟨h12_⟩
  clear BK101 BK102 HB h0_ h1_ h2_ h3_ h4_ h5_ h6_ h7_ h8_ h9_ h10_ h11_ h12_
  have HO105 := n0_
  have HO108 := n1_
  have HO113 := n2_
  have BK101 := n3_
  have BK102 := n4_
  have BK114 := n5_
  have GW114 := n6_
  have GE114 := n7_
  have NB101_114 := n8_
  have NB114_101 := n9_
  have NB102_114 := n10_
  have NB114_102 := n11_
  have HB := n12_
  clear n0_ n1_ n2_ n3_ n4_ n5_ n6_ n7_ n8_ n9_ n10_ n11_ n12_
  have hHeld : w16.cell? ⟨gb101, 0, none⟩ = some (.slice A0_0 l0_0.length c0_0) ∧ w16.cell? ⟨gb101, 1, none⟩ = some (.int .u8 a0_1) ∧ w16.cell? ⟨gb101, 2, none⟩ = some (.int .u8 a0_2) ∧ w16.cell? ⟨gb101, 3, none⟩ = some (.int .u8 a0_3) ∧ w16.cell? ⟨gb101, 4, none⟩ = some (.int .u8 a0_4) ∧ w16.cell? ⟨gb101, 5, none⟩ = some (.int .u8 a0_5) ∧ w16.cell? ⟨gb101, 6, none⟩ = some (.slice A0_6 l0_6.length c0_6) := hS_
  obtain ⟨Ao17, co17, eo17⟩ := Kd.R_slice HO105.out
  (first | subst eo17 | (injection eo17 with f1_ f2_ f3_; have f4_ := f1_.symm; have f5_ := f3_.symm; clear f1_ f2_ f3_; subst f4_; subst f5_))
  obtain ⟨Ao19, co19, eo19⟩ := Kd.R_slice HO108.out
  (first | subst eo19 | (injection eo19 with f1_ f2_ f3_; have f4_ := f1_.symm; have f5_ := f3_.symm; clear f1_ f2_ f3_; subst f4_; subst f5_))
  refine norm_ (a' := ?_) ?_ ?_
  rotate_left
  ·
   simp only [putAll, Act.put, List.setIfInBounds_toArray, List.set_cons_zero, List.set_cons_succ]
   rfl
  refine on 5 (fun K hK => ?_)
  have hs18 : w16.cell? ⟨gb114, 0, none⟩ = some (.slice none 0 0) := (blk_cell BK114.out 0).trans rfl
  have hfs18 := blk_frozen BK114.out 0
  have hns18_0 := NB101_114.out
  have hns18_1 := NB102_114.out
  have hms18_0 := NB114_101.out
  have hms18_1 := NB114_102.out
  have hs20 : w16.cell? ⟨gb114, 1, none⟩ = some (.slice none 0 0) := (blk_cell BK114.out 1).trans rfl
  have hfs20 := blk_frozen BK114.out 1
  have hns20_0 := NB101_114.out
  have hns20_1 := NB102_114.out
  have hms20_0 := NB114_101.out
  have hms20_1 := NB114_102.out
  have hs21 : w16.cell? ⟨gb114, 2, none⟩ = some (.int .i64 0) := (blk_cell BK114.out 2).trans rfl
  have hfs21 := blk_frozen BK114.out 2
  have hns21_0 := NB101_114.out
  have hns21_1 := NB102_114.out
  have hms21_0 := NB114_101.out
  have hms21_1 := NB114_102.out
  have hs22 : w16.cell? ⟨gb114, 3, none⟩ = some (.int .i64 0) := (blk_cell BK114.out 3).trans rfl
  have hfs22 := blk_frozen BK114.out 3
  have hns22_0 := NB101_114.out
  have hns22_1 := NB102_114.out
  have hms22_0 := NB114_101.out
  have hms22_1 := NB114_102.out
  refine skip_ (w1 := ?_) (by rfl) rfl ?_ ?_
  rotate_left
  ·
   go_simp
   rfl
  refine hK.out _ _ ⟨((cell_far (p := ⟨gb114, _, none⟩) NB101_114.out _).trans (((cell_far (p := ⟨gb114, _, none⟩) NB101_114.out _).trans (((cell_far (p := ⟨gb114, _, none⟩) NB101_114.out _).trans (((cell_far (p := ⟨gb114, _, none⟩) NB101_114.out _).trans (hHeld.1)))))))), ((cell_far (p := ⟨gb114, _, none⟩) NB101_114.out _).trans (((cell_far (p := ⟨gb114, _, none⟩) NB101_114.out _).trans (((cell_far (p := ⟨gb114, _, none⟩) NB101_114.out _).trans (((cell_far (p := ⟨gb114, _, none⟩) NB101_114.out _).trans (hHeld.2.1)))))))), ((cell_far (p := ⟨gb114, _, none⟩) NB101_114.out _).trans (((cell_far (p := ⟨gb114, _, none⟩) NB101_114.out _).trans (((cell_far (p := ⟨gb114, _, none⟩) NB101_114.out _).trans (((cell_far (p := ⟨gb114, _, none⟩) NB101_114.out _).trans (hHeld.2.2.1)))))))), ((cell_far (p := ⟨gb114, _, none⟩) NB101_114.out _).trans (((cell_far (p := ⟨gb114, _, none⟩) NB101_114.out _).trans (((cell_far (p := ⟨gb114, _, none⟩) NB101_114.out _).trans (((cell_far (p := ⟨gb114, _, none⟩) NB101_114.out _).trans (hHeld.2.2.2.1)))))))), ((cell_far (p := ⟨gb114, _, none⟩) NB101_114.out _).trans (((cell_far (p := ⟨gb114, _, none⟩) NB101_114.out _).trans (((cell_far (p := ⟨gb114, _, none⟩) NB101_114.out _).trans (((cell_far (p := ⟨gb114, _, none⟩) NB101_114.out _).trans (hHeld.2.2.2.2.1)))))))), ((cell_far (p := ⟨gb114, _, none⟩) NB101_114.out _).trans (((cell_far (p := ⟨gb114, _, none⟩) NB101_114.out _).trans (((cell_far (p := ⟨gb114, _, none⟩) NB101_114.out _).trans (((cell_far (p := ⟨gb114, _, none⟩) NB101_114.out _).trans (hHeld.2.2.2.2.2.1)))))))), ((cell_far (p := ⟨gb114, _, none⟩) NB101_114.out _).trans (((cell_far (p := ⟨gb114, _, none⟩) NB101_114.out _).trans (((cell_far (p := ⟨gb114, _, none⟩) NB101_114.out _).trans (((cell_far (p := ⟨gb114, _, none⟩) NB101_114.out _).trans (hHeld.2.2.2.2.2.2))))))))⟩ (fun hHeld => ?_)
  clear hK K
  refine pu 6 8 ?_
  refine done_ (by kernel_rfl) ?_
  have hnb23 := NB102_101.out
  have hnc23 := NB101_102.out
  have hnb24 := NB102_114.out
  have hnc24 := NB114_102.out
  obtain ⟨hcz25_0, hcz25_1, hfz25_0, hfz25_1⟩ := cf2 BK102
  obtain ⟨Ao26, co26, eo26⟩ := Kd.R_slice HO113.out
  subst eo26
  have hnb27 := NB114_101.out
  have hnc27 := NB101_114.out
  obtain ⟨hcz28_0, hcz28_1, hcz28_2, hcz28_3, hfz28_0, hfz28_1, hfz28_2, hfz28_3⟩ := cf4 BK114
  try go_wp2_with (first | ((with_reducible refine gc 9 rfl ?_); refine gL 43 Tryd.func9 #[.agg #[.slice Ao17 t103.length co17, .slice Ao19 t106.length co19, .int .i64 t109, .int .i64 t110]] ?_; (with_reducible refine (walkmilllaw05_own.calls _ _ t103 _ _ t106 t109 t110 t115 t118 t121 t122 _ ?side1 ?side2 ?side3 ?side4 A7.out).mono ?_); (case side1 => refine (Kd.R_reads' (e := 42) (base := w.heap.size) (ok := fun k_ => True) (n := t103.length) (c := co17) ?_).2.2; exact (by refine pR ?_; exact (Kd.R_mono (Kd.R_far (p := ⟨gb114, 3, none⟩) (Kd.R_far (p := ⟨gb114, 2, none⟩) (Kd.R_far (p := ⟨gb114, 1, none⟩) (Kd.R_far (p := ⟨gb114, 0, none⟩) (Kd.R_types HO105.out BK114.out (by decide)) (fun _ hk => hk.2) (.slice Ao17 t103.length co17)) (fun _ hk => hk.2) (.slice Ao19 t106.length co19)) (fun _ hk => hk.2) (.int .i64 t109)) (fun _ hk => hk.2) (.int .i64 t110)) (fun _ h_ => h_.1)))); (case side2 => exact (Kd.R_reads' HO105.out).2.1); (case side3 => refine (Kd.R_reads' (e := 3) (base := w.heap.size) (ok := fun k_ => True) (n := t106.length) (c := co19) ?_).2.2; exact (by refine pR ?_; exact (Kd.R_mono (Kd.R_far (p := ⟨gb114, 3, none⟩) (Kd.R_far (p := ⟨gb114, 2, none⟩) (Kd.R_far (p := ⟨gb114, 1, none⟩) (Kd.R_far (p := ⟨gb114, 0, none⟩) (Kd.R_types HO108.out BK114.out (by decide)) (fun _ hk => hk.2) (.slice Ao17 t103.length co17)) (fun _ hk => hk.2) (.slice Ao19 t106.length co19)) (fun _ hk => hk.2) (.int .i64 t109)) (fun _ hk => hk.2) (.int .i64 t110)) (fun _ h_ => h_.1)))); (case side4 => exact (Kd.R_reads' HO108.out).2.1); rintro e w29 ⟨v116, v119, rfl, ho0, ho1, hb⟩; refine ⟨_, rfl, ?_⟩; replace HO113 := Aside0.mk (Kd.R_below (by refine pR ?_; exact (Kd.R_mono (Kd.R_far (p := ⟨gb114, 3, none⟩) (Kd.R_far (p := ⟨gb114, 2, none⟩) (Kd.R_far (p := ⟨gb114, 1, none⟩) (Kd.R_far (p := ⟨gb114, 0, none⟩) (Kd.R_types HO113.out BK114.out (by decide)) (fun _ hk => hk.2) (.slice Ao17 t103.length co17)) (fun _ hk => hk.2) (.slice Ao19 t106.length co19)) (fun _ hk => hk.2) (.int .i64 t109)) (fun _ hk => hk.2) (.int .i64 t110)) (fun _ h_ => h_.1))) hb); have HO117 := Aside0.mk (Kd.R_lower (Kd.R_new' ho0 (Kd.R_lt (by refine pR ?_; exact (Kd.R_mono (Kd.R_far (p := ⟨gb114, 3, none⟩) (Kd.R_far (p := ⟨gb114, 2, none⟩) (Kd.R_far (p := ⟨gb114, 1, none⟩) (Kd.R_far (p := ⟨gb114, 0, none⟩) (Kd.R_types HO105.out BK114.out (by decide)) (fun _ hk => hk.2) (.slice Ao17 t103.length co17)) (fun _ hk => hk.2) (.slice Ao19 t106.length co19)) (fun _ hk => hk.2) (.int .i64 t109)) (fun _ hk => hk.2) (.int .i64 t110)) (fun _ h_ => h_.1))))) (below_size (pE HB))); replace HO105 := Aside0.mk (Kd.R_elder' (by refine pR ?_; exact (Kd.R_mono (Kd.R_far (p := ⟨gb114, 3, none⟩) (Kd.R_far (p := ⟨gb114, 2, none⟩) (Kd.R_far (p := ⟨gb114, 1, none⟩) (Kd.R_far (p := ⟨gb114, 0, none⟩) (Kd.R_types HO105.out BK114.out (by decide)) (fun _ hk => hk.2) (.slice Ao17 t103.length co17)) (fun _ hk => hk.2) (.slice Ao19 t106.length co19)) (fun _ hk => hk.2) (.int .i64 t109)) (fun _ hk => hk.2) (.int .i64 t110)) (fun _ h_ => h_.1))) (Kd.R_base ho0) hb); have HO120 := Aside0.mk (Kd.R_lower (Kd.R_new' ho1 (Kd.R_lt (by refine pR ?_; exact (Kd.R_mono (Kd.R_far (p := ⟨gb114, 3, none⟩) (Kd.R_far (p := ⟨gb114, 2, none⟩) (Kd.R_far (p := ⟨gb114, 1, none⟩) (Kd.R_far (p := ⟨gb114, 0, none⟩) (Kd.R_types HO108.out BK114.out (by decide)) (fun _ hk => hk.2) (.slice Ao17 t103.length co17)) (fun _ hk => hk.2) (.slice Ao19 t106.length co19)) (fun _ hk => hk.2) (.int .i64 t109)) (fun _ hk => hk.2) (.int .i64 t110)) (fun _ h_ => h_.1))))) (below_size (pE HB))); replace HO108 := Aside0.mk (Kd.R_elder' (by refine pR ?_; exact (Kd.R_mono (Kd.R_far (p := ⟨gb114, 3, none⟩) (Kd.R_far (p := ⟨gb114, 2, none⟩) (Kd.R_far (p := ⟨gb114, 1, none⟩) (Kd.R_far (p := ⟨gb114, 0, none⟩) (Kd.R_types HO108.out BK114.out (by decide)) (fun _ hk => hk.2) (.slice Ao17 t103.length co17)) (fun _ hk => hk.2) (.slice Ao19 t106.length co19)) (fun _ hk => hk.2) (.int .i64 t109)) (fun _ hk => hk.2) (.int .i64 t110)) (fun _ h_ => h_.1))) (Kd.R_base ho1) hb); replace BK101 := bf BK101 hb; replace BK102 := bf BK102 hb; replace BK114 := Aside0.mk (blk_below (g := gb114) (o := .cells #[.slice Ao17 t103.length co17, .slice Ao19 t106.length co19, .int .i64 t109, .int .i64 t110] 32 (0, 0)) (by refine pB ?_; refine blk_put (cs := #[.slice Ao17 t103.length co17, .slice Ao19 t106.length co19, .int .i64 t109, .int .i64 0]) ?_ 3 _ rfl; refine pB ?_; refine blk_put (cs := #[.slice Ao17 t103.length co17, .slice Ao19 t106.length co19, .int .i64 0, .int .i64 0]) ?_ 2 _ rfl; refine pB ?_; refine blk_put (cs := #[.slice Ao17 t103.length co17, .slice none 0 0, .int .i64 0, .int .i64 0]) ?_ 1 _ rfl; refine pB ?_; refine blk_put (cs := #[.slice none 0 0, .slice none 0 0, .int .i64 0, .int .i64 0]) ?_ 0 _ rfl; (with_reducible repeat (first | refine blk_drewN ?_ _ | refine blk_drew ?_ | refine blk_alloc ?_ _)); exact BK114.out) hb); replace HB := bs HB hb; clear hb ho0 ho1) | ((with_reducible refine gc 24 rfl ?_); refine gL 45 Tryd.func24 #[.slice Ao26 t111.length co26] ?_; (with_reducible refine (walkmilllaw05_spans.calls _ _ t111 t123 _ ?side1 ?side2 A8.out).mono ?_); (case side1 => exact pC (Kd.R_reads' HO113.out).2.2); (case side2 => exact (Kd.R_reads' HO113.out).2.1); rintro e w30 ⟨v124, rfl, ho0, hb⟩; refine ⟨_, rfl, ?_⟩; replace HO105 := rb HO105 hb; replace HO108 := rb HO108 hb; replace HO117 := rb HO117 hb; replace HO120 := rb HO120 hb; have HO125 := Aside0.mk (Kd.R_lower (Kd.R_new' ho0 (Kd.R_lt (pR HO113.out))) (below_size (pE HB))); replace HO113 := re HO113 ho0 hb; replace BK101 := bb BK101 hb; replace BK102 := bb BK102 hb; replace BK114 := bb BK114 hb; replace HB := bs HB hb; clear hb ho0; obtain ⟨Ao31, co31, eo31⟩ := Kd.R_slice HO117.out; subst eo31; obtain ⟨Ao32, co32, eo32⟩ := Kd.R_slice HO120.out; subst eo32; obtain ⟨Ao33, co33, eo33⟩ := Kd.R_slice HO125.out; subst eo33) | ((with_reducible refine gc 23 rfl ?_); refine gL 47 Tryd.func23 #[.agg #[.slice Ao31 t115.length co31, .slice Ao32 t118.length co32, .int .i64 t121, .int .i64 t122], .slice Ao33 t123.length co33, .int .i64 (Int.tmod (wrap64 (a2_0)) (wrap64 ((t111.length : Int) + 1)))] ?_; (with_reducible refine (tenter_Order.calls k _ _ t115 _ _ t118 t121 t122 _ _ t123 (Int.tmod (wrap64 (a2_0)) (wrap64 ((t111.length : Int) + 1))) t126 t129 _ ?side1 ?side2 ?side3 ?side4 ?side5 ?side6 A9.out).mono ?_); (case side1 => exact pC (Kd.R_reads' HO117.out).2.2); (case side2 => exact (Kd.R_reads' HO117.out).2.1); (case side3 => exact pC (Kd.R_reads' HO120.out).2.2); (case side4 => exact (Kd.R_reads' HO120.out).2.1); (case side5 => exact pC (Kd.R_reads' HO125.out).2.2); (case side6 => exact (Kd.R_reads' HO125.out).2.1); rintro e w34 ⟨v127, rfl, ho0, hb⟩; refine ⟨_, rfl, ?_⟩; replace HO105 := rb HO105 hb; replace HO113 := rb HO113 hb; replace HO117 := rb HO117 hb; replace HO125 := rb HO125 hb; have HO128 := Aside0.mk (Kd.R_lower (Kd.R_new' (Kd.R_new' ho0 (Kd.R_lt (pR HO108.out))) (Kd.R_lt (pR HO120.out))) (below_size (pE HB))); replace HO108 := re HO108 ho0 hb; replace HO120 := re HO120 ho0 hb; replace BK101 := bb BK101 hb; replace BK102 := bb BK102 hb; replace BK114 := bb BK114 hb; replace HB := bs HB hb; clear hb ho0) | ((with_reducible refine gate_dst (N := 50) rfl ?_); (try (refine gate_guard (by rfl) ?_; dsimp only)); refine Kd.R_lit (Kd.int .i64) _ 3 ?hg (N := 50) ?hd (xs := ([] : List Int)) (inner := []) (ok := fun _ => True) (okp := fun _ => True) ?hr ?hp (fun _ hk => hk) trivial (Below.refl _ _) (Nat.le_refl _) (by simp) ?_; (case hd => rfl); (case hg => rfl); (case hr => first | (go_simp; done) | (go_simp; rfl)); (case hp => exact (Reps.none _ _)); intro v131 w35 ho36 hb hg_ hnew_; clear hg_ hnew_; (first | rw [← Ny130.out] at ho36 | (simp only [Int.reduceToNat] at ho36; rw [← Ny130.out] at ho36)); replace HO105 := rb HO105 hb; replace HO113 := rb HO113 hb; replace HO117 := rb HO117 hb; replace HO125 := rb HO125 hb; have HO132 := Aside0.mk (Kd.R_lower (Kd.R_new' (Kd.R_new' (Kd.R_new' ho36 (Kd.R_lt (pR HO108.out))) (Kd.R_lt (pR HO120.out))) (Kd.R_lt (pR HO128.out))) (below_size (pE HB))); replace HO108 := re HO108 ho36 hb; replace HO120 := re HO120 ho36 hb; replace HO128 := re HO128 ho36 hb; replace BK101 := bb BK101 hb; replace BK102 := bb BK102 hb; replace BK114 := bb BK114 hb; replace HB := bs HB hb; clear hb ho36))
  go_loopg [12, 13] k (fun kq v12 v13 w' => ∃ (x12_1 : List Int) (x13_1 : Int), v13 = .int .i64 x13_1 ∧ Aside0 (walkmilllaw05_TenterOrder.l0 kq l1 t111 (Int.tmod (wrap64 (a2_0)) (wrap64 ((t111.length : Int) + 1))) t126 t129 x12_1 x13_1 a2_0 a2_1 t103 t106 t109 t110 = some r) ∧ Aside0 (kq ≤ k) ∧ Aside0 (Kd.R k40 40 w' w.heap.size (fun _ => True) (.slice Ao26 t111.length co26) t111) ∧ Aside0 (Kd.R (Kd.int .i64) 3 w' w.heap.size (fun k_ => some k_ ≠ (v12 : Value).ownBlock ∧ some k_ ≠ ((.slice Ao19 t106.length co19) : Value).ownBlock) v127 t126) ∧ Aside0 (Kd.R (Kd.int .i64) 3 w' w.heap.size (fun k_ => some k_ ≠ (v127 : Value).ownBlock ∧ some k_ ≠ ((.slice Ao19 t106.length co19) : Value).ownBlock) v12 x12_1) ∧ Aside0 (Kd.R k42 42 w' w.heap.size (fun _ => True) (.slice Ao17 t103.length co17) t103) ∧ Aside0 (Kd.R (Kd.int .i64) 3 w' w.heap.size (fun k_ => some k_ ≠ (v127 : Value).ownBlock ∧ some k_ ≠ (v12 : Value).ownBlock) (.slice Ao19 t106.length co19) t106) ∧ Aside0 (w'.heap[gb101]? = some (.cells #[(.slice A0_0 l0_0.length c0_0), .int .u8 a0_1, .int .u8 a0_2, .int .u8 a0_3, .int .u8 a0_4, .int .u8 a0_5, (.slice A0_6 l0_6.length c0_6)] 26 (0, 0))) ∧ Aside0 (w'.heap[gb102]? = some (.cells #[.int .u8 a2_0, .int .u8 a2_1] 65 (0, 0))) ∧ Aside0 (w'.heap[gb114]? = some (.cells #[(.slice Ao17 t103.length co17), (.slice Ao19 t106.length co19), .int .i64 t109, .int .i64 t110] 32 (0, 0))) ∧ Aside0 (Below w.heap.size w w'))
  case atStart => exact ⟨(y130), (0), (by first | rfl | (simp; done) | (simp [*]; done)), H', ⟨Nat.le_refl _⟩, ⟨by (with_reducible repeat (first | apply Kd.R_alloc | apply Kd.R_drewN | apply Kd.R_drew)); exact Kd.R_mono HO113.out (fun _ hk => trivial)⟩, ⟨by (with_reducible repeat (first | apply Kd.R_alloc | apply Kd.R_drewN | apply Kd.R_drew)); exact Kd.R_mono HO128.out (fun _ hk => ⟨hk.2, hk.1.1.2⟩)⟩, ⟨by (with_reducible repeat (first | apply Kd.R_alloc | apply Kd.R_drewN | apply Kd.R_drew)); exact Kd.R_mono HO132.out (fun _ hk => ⟨hk.2, hk.1.1.2⟩)⟩, ⟨by (with_reducible repeat (first | apply Kd.R_alloc | apply Kd.R_drewN | apply Kd.R_drew)); exact Kd.R_mono HO105.out (fun _ hk => trivial)⟩, ⟨by (with_reducible repeat (first | apply Kd.R_alloc | apply Kd.R_drewN | apply Kd.R_drew)); exact Kd.R_mono HO108.out (fun _ hk => ⟨hk.1.2, hk.2⟩)⟩, ⟨by (with_reducible repeat (first | refine blk_drewN ?_ _ | refine blk_drew ?_ | refine blk_alloc ?_ _)); exact BK101.out⟩, ⟨by (with_reducible repeat (first | refine blk_drewN ?_ _ | refine blk_drew ?_ | refine blk_alloc ?_ _)); exact BK102.out⟩, ⟨by (with_reducible repeat (first | refine blk_drewN ?_ _ | refine blk_drew ?_ | refine blk_alloc ?_ _)); exact BK114.out⟩, ⟨pE HB⟩⟩
  case round =>
   clear H'
   try clear c1
   try clear c2
   try clear p2
   try clear c6
   try clear c6b0
   try clear c6b1
   try clear p6
   try clear c7
   try clear c9
   try clear c22
   try clear c23
   try clear c24
   try clear c27
   try clear hcz25_0
   try clear hcz25_1
   try clear hcz28_0
   try clear hcz28_1
   try clear hcz28_2
   try clear hcz28_3
   try clear hfz25_0
   try clear hfz25_1
   try clear hfz28_0
   try clear hfz28_1
   try clear hfz28_2
   try clear hfz28_3
   obtain ⟨x12_1, x13_1, rfl, HA, HK1, HO_8, HO_10, HO_12, HO_115000, HO_115001, BK101, BK102, BK114, HB⟩ := hrel
   cases gk with
   | zero => exact absurd HA.out (by simp [walkmilllaw05_TenterOrder.l0])
   | succ k1 =>
    have H := HA.out
    clear HA
    simp only [walkmilllaw05_TenterOrder.l0] at H
    by_cases c37 : x13_1 < (t103.length : Int)
    ·
     rw [if_pos c37] at H
     have c37b0 : decide (x13_1 < (t103.length : Int)) = true := decide_eq_true c37
     clear c37
     obtain ⟨⟨t133, t136, t139, t140⟩, A38, H⟩ := bi H
     obtain ⟨t141, A39, H⟩ := bi H
     obtain ⟨⟨t144, t145⟩, A40, H⟩ := bi H
     by_cases c41 : t145 = 0
     ·
      rw [if_pos c41] at H
      have c41b0 : (t145 == 0) = true := beq_iff_eq.mpr c41
      have c41b1 : (t145 != 0) = false := bne_eq_false_iff_eq.mpr c41
      clear c41
      by_cases c42 : x12_1.length < 17592186044416
      ·
       rw [if_pos c42] at H
       have LMc42 := Aside0.mk c42
       clear c42
       obtain ⟨y146, hy146⟩ : ∃ y_ : List Int, y_ = (x12_1 ++ [t144]) := ⟨_, rfl⟩
       replace H : (walkmilllaw05_TenterOrder.l0 k1 l1 t111 (Int.tmod (wrap64 (a2_0)) (wrap64 ((t111.length : Int) + 1))) t126 t129 y146 (wrap64 (x13_1 + 1)) a2_0 a2_1 t103 t106 t109 t110) = some r := yy hy146 H
       have Ny146 := Aside0.mk hy146
       clear hy146
       have H' := Aside0.mk H
       clear H
       have hnb43 := NB114_101.out
       have hnc43 := NB101_114.out
       have hnb44 := NB114_102.out
       have hnc44 := NB102_114.out
       obtain ⟨hcz45_0, hcz45_1, hcz45_2, hcz45_3, hfz45_0, hfz45_1, hfz45_2, hfz45_3⟩ := cf4 BK114
       go_wp2_with (first | ((with_reducible refine gc 9 rfl ?_); refine gL 60 Tryd.func9 #[.agg #[.slice Ao17 t103.length co17, .slice Ao19 t106.length co19, .int .i64 t109, .int .i64 t110]] ?_; (with_reducible refine (walkmilllaw05_own.calls _ _ t103 _ _ t106 t109 t110 t133 t136 t139 t140 _ ?side1 ?side2 ?side3 ?side4 A38.out).mono ?_); (case side1 => exact pC (Kd.R_reads' HO_115000.out).2.2); (case side2 => exact (Kd.R_reads' HO_115000.out).2.1); (case side3 => exact pC (Kd.R_reads' HO_115001.out).2.2); (case side4 => exact (Kd.R_reads' HO_115001.out).2.1); rintro e w46 ⟨v134, v137, rfl, ho0, ho1, hb⟩; refine ⟨_, rfl, ?_⟩; replace HO_8 := rb HO_8 hb; have HO135 := Aside0.mk (Kd.R_lower (Kd.R_new' ho0 (Kd.R_lt (pR HO_115000.out))) (below_size (pE HB))); replace HO_115000 := re HO_115000 ho0 hb; have HO138 := Aside0.mk (Kd.R_lower (Kd.R_new' (Kd.R_new' (Kd.R_new' ho1 (Kd.R_lt (pR HO_10.out))) (Kd.R_lt (pR HO_12.out))) (Kd.R_lt (pR HO_115001.out))) (below_size (pE HB))); replace HO_10 := re HO_10 ho1 hb; replace HO_12 := re HO_12 ho1 hb; replace HO_115001 := re HO_115001 ho1 hb; replace BK101 := bb BK101 hb; replace BK102 := bb BK102 hb; replace BK114 := bb BK114 hb; replace HB := bs HB hb; clear hb ho0 ho1) | ((with_reducible refine gc 24 rfl ?_); refine gL 62 Tryd.func24 #[.slice Ao26 t111.length co26] ?_; (with_reducible refine (walkmilllaw05_spans.calls _ _ t111 t141 _ ?side1 ?side2 A39.out).mono ?_); (case side1 => exact pC (Kd.R_reads' HO_8.out).2.2); (case side2 => exact (Kd.R_reads' HO_8.out).2.1); rintro e w47 ⟨v142, rfl, ho0, hb⟩; refine ⟨_, rfl, ?_⟩; replace HO_10 := rb HO_10 hb; replace HO_12 := rb HO_12 hb; replace HO_115000 := rb HO_115000 hb; replace HO_115001 := rb HO_115001 hb; replace HO135 := rb HO135 hb; replace HO138 := rb HO138 hb; have HO143 := Aside0.mk (Kd.R_lower (Kd.R_new' ho0 (Kd.R_lt (pR HO_8.out))) (below_size (pE HB))); replace HO_8 := re HO_8 ho0 hb; replace BK101 := bb BK101 hb; replace BK102 := bb BK102 hb; replace BK114 := bb BK114 hb; replace HB := bs HB hb; clear hb ho0; obtain ⟨Ao48, co48, eo48⟩ := Kd.R_slice HO135.out; subst eo48; obtain ⟨Ao49, co49, eo49⟩ := Kd.R_slice HO138.out; subst eo49; obtain ⟨Ao50, co50, eo50⟩ := Kd.R_slice HO143.out; subst eo50) | ((with_reducible refine gc 25 rfl ?_); refine gL 65 Tryd.func25 #[.agg #[.slice Ao48 t133.length co48, .slice Ao49 t136.length co49, .int .i64 t139, .int .i64 t140], .slice Ao50 t141.length co50, .int .i64 x13_1, .int .i64 (Int.tmod (wrap64 (a2_0)) (wrap64 ((t111.length : Int) + 1)))] ?_; (with_reducible refine (tenter_Late.calls k1 _ _ t133 _ _ t136 t139 t140 _ _ t141 x13_1 (Int.tmod (wrap64 (a2_0)) (wrap64 ((t111.length : Int) + 1))) t144 t145 _ ?side1 ?side2 ?side3 ?side4 ?side5 ?side6 A40.out).mono ?_); (case side1 => exact pC (Kd.R_reads' HO135.out).2.2); (case side2 => exact (Kd.R_reads' HO135.out).2.1); (case side3 => exact pC (Kd.R_reads' HO138.out).2.2); (case side4 => exact (Kd.R_reads' HO138.out).2.1); (case side5 => exact pC (Kd.R_reads' HO143.out).2.2); (case side6 => exact (Kd.R_reads' HO143.out).2.1); rintro e w51 ⟨rfl, hb⟩; refine ⟨_, rfl, ?_⟩; replace HO_8 := rb HO_8 hb; replace HO_10 := rb HO_10 hb; replace HO_12 := rb HO_12 hb; replace HO_115000 := rb HO_115000 hb; replace HO_115001 := rb HO_115001 hb; replace HO135 := rb HO135 hb; replace HO138 := rb HO138 hb; replace HO143 := rb HO143 hb; replace BK101 := bb BK101 hb; replace BK102 := bb BK102 hb; replace BK114 := bb BK114 hb; replace HB := bs HB hb; clear hb) | ((with_reducible refine gate_builtin (b := .append) (xs := #[.tmp 70, .tmp 72]) rfl ?_); (try (refine gate_guard (by rfl) ?_; dsimp only)); at_builtin; refine Kd.R_append (Kd.int .i64) (w0 := w) w.heap.size rfl (.tmp 70) (.tmp 72) 30 3 (.int .i64 0) 8 rfl Tryd.underlying30 info3 rfl (by decide) (by omega) u12 x12_1 t144 [.int .i64 t144] (fun k_ => some k_ ≠ (v127 : Value).ownBlock ∧ some k_ ≠ (.slice Ao19 t106.length co19 : Value).ownBlock ∧ some k_ ≠ (.slice Ao49 t136.length co49 : Value).ownBlock) (fun _ => False) rfl rfl ?aP (fun _ hk => hk.elim) ?aF ?aO ?aB ?aS ?aL ?_; (case aP => exact rfl); (case aB => exact (pE HB)); (case aF => exact (fun k_ hk => ⟨Kd.fresh' (Kd.R_lt (pR HO_10.out)) k_ hk, Kd.fresh' (Kd.R_lt (pR HO_115001.out)) k_ hk, Kd.fresh' (Kd.R_lt (pR HO138.out)) k_ hk⟩)); (case aO => exact (by refine pR ?_; exact Kd.R_mono HO_12.out (fun _ hk => ⟨hk.1.1, ⟨hk.1.2, hk.2⟩⟩))); (case aS => exact (below_size (pE HB))); (case aL => have := LMc42.out; omega); intro v147 w52 ho hb hg hat; rw [← Ny146.out] at ho; replace HO_8 := Aside0.mk (Kd.R_over' (pR HO_8.out) (Kd.R_typed (pR HO_12.out)) (by decide) hg); replace HO_10 := Aside0.mk (Kd.R_after (ok := (fun k_ => some k_ ≠ (.slice Ao19 t106.length co19 : Value).ownBlock ∧ some k_ ≠ (.slice Ao49 t136.length co49 : Value).ownBlock)) (by refine pR ?_; exact Kd.R_mono HO_10.out (fun _ hk => ⟨⟨hk.1.2, hk.2⟩, hk.1.1⟩)) hg hat); replace HO_115000 := Aside0.mk (Kd.R_over' (pR HO_115000.out) (Kd.R_typed (pR HO_12.out)) (by decide) hg); replace HO_115001 := Aside0.mk (Kd.R_after (ok := (fun k_ => some k_ ≠ (v127 : Value).ownBlock ∧ some k_ ≠ (.slice Ao49 t136.length co49 : Value).ownBlock)) (by refine pR ?_; exact Kd.R_mono HO_115001.out (fun _ hk => ⟨⟨hk.1.1, hk.2⟩, hk.1.2⟩)) hg hat); replace BK101 := Aside0.mk (blk_grown (g := gb101) (o := .cells #[.slice A0_0 l0_0.length c0_0, .int .u8 a0_1, .int .u8 a0_2, .int .u8 a0_3, .int .u8 a0_4, .int .u8 a0_5, .slice A0_6 l0_6.length c0_6] 26 (0, 0)) (pB BK101.out) hg (Kd.R_ne HO_12.out BK101.out (by decide))); replace BK102 := Aside0.mk (blk_grown (g := gb102) (o := .cells #[.int .u8 a2_0, .int .u8 a2_1] 65 (0, 0)) (pB BK102.out) hg (Kd.R_ne HO_12.out BK102.out (by decide))); replace BK114 := Aside0.mk (blk_grown (g := gb114) (o := .cells #[.slice Ao17 t103.length co17, .slice Ao19 t106.length co19, .int .i64 t109, .int .i64 t110] 32 (0, 0)) (pB BK114.out) hg (Kd.R_ne HO_12.out BK114.out (by decide))); replace HO135 := Aside0.mk (Kd.R_over' (pR HO135.out) (Kd.R_typed (pR HO_12.out)) (by decide) hg); replace HO138 := Aside0.mk (Kd.R_after (ok := (fun k_ => some k_ ≠ (v127 : Value).ownBlock ∧ some k_ ≠ (.slice Ao19 t106.length co19 : Value).ownBlock)) (by refine pR ?_; exact Kd.R_mono HO138.out (fun _ hk => ⟨⟨hk.1.1.2, hk.2⟩, hk.1.2⟩)) hg hat); replace HO143 := Aside0.mk (Kd.R_over' (pR HO143.out) (Kd.R_typed (pR HO_12.out)) (by decide) hg); replace HB := Aside0.mk (hb); have HO148 := Aside0.mk (ho); clear HO_12; clear ho hb hg hat))
       go_roundg k1
       case measure => have := HK1.out; omega
       case rel => exact ⟨(y146), (wrap64 (x13_1 + 1)), (by first | rfl | (simp; done) | (simp [*]; done)), H', ⟨by have := HK1.out; omega⟩, ⟨by (with_reducible repeat (first | apply Kd.R_alloc | apply Kd.R_drewN | apply Kd.R_drew)); exact Kd.R_mono HO_8.out (fun _ hk => trivial)⟩, ⟨by (with_reducible repeat (first | apply Kd.R_alloc | apply Kd.R_drewN | apply Kd.R_drew)); exact Kd.R_mono HO_10.out (fun _ hk => ⟨hk.2, hk.1.1⟩)⟩, ⟨by (with_reducible repeat (first | apply Kd.R_alloc | apply Kd.R_drewN | apply Kd.R_drew)); exact Kd.R_mono HO148.out (fun _ hk => ⟨hk.1, hk.2.1⟩)⟩, ⟨by (with_reducible repeat (first | apply Kd.R_alloc | apply Kd.R_drewN | apply Kd.R_drew)); exact Kd.R_mono HO_115000.out (fun _ hk => trivial)⟩, ⟨by (with_reducible repeat (first | apply Kd.R_alloc | apply Kd.R_drewN | apply Kd.R_drew)); exact Kd.R_mono HO_115001.out (fun _ hk => ⟨hk.1.1, hk.2⟩)⟩, ⟨by (with_reducible repeat (first | refine blk_drewN ?_ _ | refine blk_drew ?_ | refine blk_alloc ?_ _)); exact BK101.out⟩, ⟨by (with_reducible repeat (first | refine blk_drewN ?_ _ | refine blk_drew ?_ | refine blk_alloc ?_ _)); exact BK102.out⟩, ⟨by (with_reducible repeat (first | refine blk_drewN ?_ _ | refine blk_drew ?_ | refine blk_alloc ?_ _)); exact BK114.out⟩, ⟨pE HB⟩⟩
      ·
       rw [if_neg c42] at H
       exact absurd H (by simp)
     ·
      rw [if_neg c41] at H
      have c41b0 : (t145 == 0) = false := beq_eq_false_iff_ne.mpr c41
      have c41b1 : (t145 != 0) = true := bne_iff_ne.mpr c41
      by_cases c53 : x12_1.length < 17592186044416
      ·
       rw [if_pos c53] at H
       have LMc53 := Aside0.mk c53
       clear c53
       obtain ⟨y149, hy149⟩ : ∃ y_ : List Int, y_ = (x12_1 ++ [(-1)]) := ⟨_, rfl⟩
       replace H : (walkmilllaw05_TenterOrder.l0 k1 l1 t111 (Int.tmod (wrap64 (a2_0)) (wrap64 ((t111.length : Int) + 1))) t126 t129 y149 (wrap64 (x13_1 + 1)) a2_0 a2_1 t103 t106 t109 t110) = some r := yy hy149 H
       have Ny149 := Aside0.mk hy149
       clear hy149
       have H' := Aside0.mk H
       clear H
       have hnb54 := NB114_101.out
       have hnc54 := NB101_114.out
       have hnb55 := NB114_102.out
       have hnc55 := NB102_114.out
       obtain ⟨hcz56_0, hcz56_1, hcz56_2, hcz56_3, hfz56_0, hfz56_1, hfz56_2, hfz56_3⟩ := cf4 BK114
       go_wp2_with (first | ((with_reducible refine gc 9 rfl ?_); refine gL 60 Tryd.func9 #[.agg #[.slice Ao17 t103.length co17, .slice Ao19 t106.length co19, .int .i64 t109, .int .i64 t110]] ?_; (with_reducible refine (walkmilllaw05_own.calls _ _ t103 _ _ t106 t109 t110 t133 t136 t139 t140 _ ?side1 ?side2 ?side3 ?side4 A38.out).mono ?_); (case side1 => exact pC (Kd.R_reads' HO_115000.out).2.2); (case side2 => exact (Kd.R_reads' HO_115000.out).2.1); (case side3 => exact pC (Kd.R_reads' HO_115001.out).2.2); (case side4 => exact (Kd.R_reads' HO_115001.out).2.1); rintro e w57 ⟨v134, v137, rfl, ho0, ho1, hb⟩; refine ⟨_, rfl, ?_⟩; replace HO_8 := rb HO_8 hb; have HO135 := Aside0.mk (Kd.R_lower (Kd.R_new' ho0 (Kd.R_lt (pR HO_115000.out))) (below_size (pE HB))); replace HO_115000 := re HO_115000 ho0 hb; have HO138 := Aside0.mk (Kd.R_lower (Kd.R_new' (Kd.R_new' (Kd.R_new' ho1 (Kd.R_lt (pR HO_10.out))) (Kd.R_lt (pR HO_12.out))) (Kd.R_lt (pR HO_115001.out))) (below_size (pE HB))); replace HO_10 := re HO_10 ho1 hb; replace HO_12 := re HO_12 ho1 hb; replace HO_115001 := re HO_115001 ho1 hb; replace BK101 := bb BK101 hb; replace BK102 := bb BK102 hb; replace BK114 := bb BK114 hb; replace HB := bs HB hb; clear hb ho0 ho1) | ((with_reducible refine gc 24 rfl ?_); refine gL 62 Tryd.func24 #[.slice Ao26 t111.length co26] ?_; (with_reducible refine (walkmilllaw05_spans.calls _ _ t111 t141 _ ?side1 ?side2 A39.out).mono ?_); (case side1 => exact pC (Kd.R_reads' HO_8.out).2.2); (case side2 => exact (Kd.R_reads' HO_8.out).2.1); rintro e w58 ⟨v142, rfl, ho0, hb⟩; refine ⟨_, rfl, ?_⟩; replace HO_10 := rb HO_10 hb; replace HO_12 := rb HO_12 hb; replace HO_115000 := rb HO_115000 hb; replace HO_115001 := rb HO_115001 hb; replace HO135 := rb HO135 hb; replace HO138 := rb HO138 hb; have HO143 := Aside0.mk (Kd.R_lower (Kd.R_new' ho0 (Kd.R_lt (pR HO_8.out))) (below_size (pE HB))); replace HO_8 := re HO_8 ho0 hb; replace BK101 := bb BK101 hb; replace BK102 := bb BK102 hb; replace BK114 := bb BK114 hb; replace HB := bs HB hb; clear hb ho0; obtain ⟨Ao59, co59, eo59⟩ := Kd.R_slice HO135.out; subst eo59; obtain ⟨Ao60, co60, eo60⟩ := Kd.R_slice HO138.out; subst eo60; obtain ⟨Ao61, co61, eo61⟩ := Kd.R_slice HO143.out; subst eo61) | ((with_reducible refine gc 25 rfl ?_); refine gL 65 Tryd.func25 #[.agg #[.slice Ao59 t133.length co59, .slice Ao60 t136.length co60, .int .i64 t139, .int .i64 t140], .slice Ao61 t141.length co61, .int .i64 x13_1, .int .i64 (Int.tmod (wrap64 (a2_0)) (wrap64 ((t111.length : Int) + 1)))] ?_; (with_reducible refine (tenter_Late.calls k1 _ _ t133 _ _ t136 t139 t140 _ _ t141 x13_1 (Int.tmod (wrap64 (a2_0)) (wrap64 ((t111.length : Int) + 1))) t144 t145 _ ?side1 ?side2 ?side3 ?side4 ?side5 ?side6 A40.out).mono ?_); (case side1 => exact pC (Kd.R_reads' HO135.out).2.2); (case side2 => exact (Kd.R_reads' HO135.out).2.1); (case side3 => exact pC (Kd.R_reads' HO138.out).2.2); (case side4 => exact (Kd.R_reads' HO138.out).2.1); (case side5 => exact pC (Kd.R_reads' HO143.out).2.2); (case side6 => exact (Kd.R_reads' HO143.out).2.1); rintro e w62 ⟨rfl, hb⟩; refine ⟨_, rfl, ?_⟩; replace HO_8 := rb HO_8 hb; replace HO_10 := rb HO_10 hb; replace HO_12 := rb HO_12 hb; replace HO_115000 := rb HO_115000 hb; replace HO_115001 := rb HO_115001 hb; replace HO135 := rb HO135 hb; replace HO138 := rb HO138 hb; replace HO143 := rb HO143 hb; replace BK101 := bb BK101 hb; replace BK102 := bb BK102 hb; replace BK114 := bb BK114 hb; replace HB := bs HB hb; clear hb) | ((with_reducible refine gate_builtin (b := .append) (xs := #[.tmp 70, .tmp 72]) rfl ?_); (try (refine gate_guard (by rfl) ?_; dsimp only)); at_builtin; refine Kd.R_append (Kd.int .i64) (w0 := w) w.heap.size rfl (.tmp 70) (.tmp 72) 30 3 (.int .i64 0) 8 rfl Tryd.underlying30 info3 rfl (by decide) (by omega) u12 x12_1 (-1) [.int .i64 (-1)] (fun k_ => some k_ ≠ (v127 : Value).ownBlock ∧ some k_ ≠ (.slice Ao19 t106.length co19 : Value).ownBlock ∧ some k_ ≠ (.slice Ao60 t136.length co60 : Value).ownBlock) (fun _ => False) rfl rfl ?aP (fun _ hk => hk.elim) ?aF ?aO ?aB ?aS ?aL ?_; (case aP => exact rfl); (case aB => exact (pE HB)); (case aF => exact (fun k_ hk => ⟨Kd.fresh' (Kd.R_lt (pR HO_10.out)) k_ hk, Kd.fresh' (Kd.R_lt (pR HO_115001.out)) k_ hk, Kd.fresh' (Kd.R_lt (pR HO138.out)) k_ hk⟩)); (case aO => exact (by refine pR ?_; exact Kd.R_mono HO_12.out (fun _ hk => ⟨hk.1.1, ⟨hk.1.2, hk.2⟩⟩))); (case aS => exact (below_size (pE HB))); (case aL => have := LMc53.out; omega); intro v150 w63 ho hb hg hat; rw [← Ny149.out] at ho; replace HO_8 := Aside0.mk (Kd.R_over' (pR HO_8.out) (Kd.R_typed (pR HO_12.out)) (by decide) hg); replace HO_10 := Aside0.mk (Kd.R_after (ok := (fun k_ => some k_ ≠ (.slice Ao19 t106.length co19 : Value).ownBlock ∧ some k_ ≠ (.slice Ao60 t136.length co60 : Value).ownBlock)) (by refine pR ?_; exact Kd.R_mono HO_10.out (fun _ hk => ⟨⟨hk.1.2, hk.2⟩, hk.1.1⟩)) hg hat); replace HO_115000 := Aside0.mk (Kd.R_over' (pR HO_115000.out) (Kd.R_typed (pR HO_12.out)) (by decide) hg); replace HO_115001 := Aside0.mk (Kd.R_after (ok := (fun k_ => some k_ ≠ (v127 : Value).ownBlock ∧ some k_ ≠ (.slice Ao60 t136.length co60 : Value).ownBlock)) (by refine pR ?_; exact Kd.R_mono HO_115001.out (fun _ hk => ⟨⟨hk.1.1, hk.2⟩, hk.1.2⟩)) hg hat); replace BK101 := Aside0.mk (blk_grown (g := gb101) (o := .cells #[.slice A0_0 l0_0.length c0_0, .int .u8 a0_1, .int .u8 a0_2, .int .u8 a0_3, .int .u8 a0_4, .int .u8 a0_5, .slice A0_6 l0_6.length c0_6] 26 (0, 0)) (pB BK101.out) hg (Kd.R_ne HO_12.out BK101.out (by decide))); replace BK102 := Aside0.mk (blk_grown (g := gb102) (o := .cells #[.int .u8 a2_0, .int .u8 a2_1] 65 (0, 0)) (pB BK102.out) hg (Kd.R_ne HO_12.out BK102.out (by decide))); replace BK114 := Aside0.mk (blk_grown (g := gb114) (o := .cells #[.slice Ao17 t103.length co17, .slice Ao19 t106.length co19, .int .i64 t109, .int .i64 t110] 32 (0, 0)) (pB BK114.out) hg (Kd.R_ne HO_12.out BK114.out (by decide))); replace HO135 := Aside0.mk (Kd.R_over' (pR HO135.out) (Kd.R_typed (pR HO_12.out)) (by decide) hg); replace HO138 := Aside0.mk (Kd.R_after (ok := (fun k_ => some k_ ≠ (v127 : Value).ownBlock ∧ some k_ ≠ (.slice Ao19 t106.length co19 : Value).ownBlock)) (by refine pR ?_; exact Kd.R_mono HO138.out (fun _ hk => ⟨⟨hk.1.1.2, hk.2⟩, hk.1.2⟩)) hg hat); replace HO143 := Aside0.mk (Kd.R_over' (pR HO143.out) (Kd.R_typed (pR HO_12.out)) (by decide) hg); replace HB := Aside0.mk (hb); have HO151 := Aside0.mk (ho); clear HO_12; clear ho hb hg hat))
       go_roundg k1
       case measure => have := HK1.out; omega
       case rel => exact ⟨(y149), (wrap64 (x13_1 + 1)), (by first | rfl | (simp; done) | (simp [*]; done)), H', ⟨by have := HK1.out; omega⟩, ⟨by (with_reducible repeat (first | apply Kd.R_alloc | apply Kd.R_drewN | apply Kd.R_drew)); exact Kd.R_mono HO_8.out (fun _ hk => trivial)⟩, ⟨by (with_reducible repeat (first | apply Kd.R_alloc | apply Kd.R_drewN | apply Kd.R_drew)); exact Kd.R_mono HO_10.out (fun _ hk => ⟨hk.2, hk.1.1⟩)⟩, ⟨by (with_reducible repeat (first | apply Kd.R_alloc | apply Kd.R_drewN | apply Kd.R_drew)); exact Kd.R_mono HO151.out (fun _ hk => ⟨hk.1, hk.2.1⟩)⟩, ⟨by (with_reducible repeat (first | apply Kd.R_alloc | apply Kd.R_drewN | apply Kd.R_drew)); exact Kd.R_mono HO_115000.out (fun _ hk => trivial)⟩, ⟨by (with_reducible repeat (first | apply Kd.R_alloc | apply Kd.R_drewN | apply Kd.R_drew)); exact Kd.R_mono HO_115001.out (fun _ hk => ⟨hk.1.1, hk.2⟩)⟩, ⟨by (with_reducible repeat (first | refine blk_drewN ?_ _ | refine blk_drew ?_ | refine blk_alloc ?_ _)); exact BK101.out⟩, ⟨by (with_reducible repeat (first | refine blk_drewN ?_ _ | refine blk_drew ?_ | refine blk_alloc ?_ _)); exact BK102.out⟩, ⟨by (with_reducible repeat (first | refine blk_drewN ?_ _ | refine blk_drew ?_ | refine blk_alloc ?_ _)); exact BK114.out⟩, ⟨pE HB⟩⟩
      ·
       rw [if_neg c53] at H
       exact absurd H (by simp)
    ·
     rw [if_neg c37] at H
     have c37b0 : decide (x13_1 < (t103.length : Int)) = false := decide_eq_false c37
     clear c37
     by_cases c64 : t129 = 0
     ·
      rw [if_pos c64] at H
      have c64b0 : (t129 == 0) = true := beq_iff_eq.mpr c64
      have c64b1 : (t129 != 0) = false := bne_eq_false_iff_eq.mpr c64
      clear c64
      by_cases c65 : (t126.length : Int) = (x12_1.length : Int)
      ·
       rw [if_pos c65] at H
       have c65b0 : ((t126.length : Int) == (x12_1.length : Int)) = true := beq_iff_eq.mpr c65
       have c65b1 : ((t126.length : Int) != (x12_1.length : Int)) = false := bne_eq_false_iff_eq.mpr c65
       have c65b2 : (t126.length == x12_1.length) = true := by first | simpa using c65 | (simp at c65 ⊢; omega)
       clear c65
       have H' := Aside0.mk H
       clear H
       have hnb66 := NB114_101.out
       have hnc66 := NB101_114.out
       have hnb67 := NB114_102.out
       have hnc67 := NB102_114.out
       obtain ⟨hcz68_0, hcz68_1, hcz68_2, hcz68_3, hfz68_0, hfz68_1, hfz68_2, hfz68_3⟩ := cf4 BK114
       obtain ⟨Ao69, co69, eo69⟩ := Kd.R_slice HO_10.out
       subst eo69
       obtain ⟨Ao70, co70, eo70⟩ := Kd.R_slice HO_12.out
       subst eo70
       go_wp2_with (first | ((with_reducible refine gate_dst (N := 21) rfl ?_); (try (refine gate_guard (by rfl) ?_; dsimp only)); refine bx 21 #[.bool false, .bool false, .bool false, .bool false, .bool false, .bool false] 59 ?_; intro gb196 hg w71 hbox hb; replace HO_8 := rb HO_8 hb; replace HO_10 := rb HO_10 hb; replace HO_12 := rb HO_12 hb; replace HO_115000 := rb HO_115000 hb; replace HO_115001 := rb HO_115001 hb; have BK196 := hbox; have GW196 := gs HB hg; have GE196 := gs HB hg; replace HB := bs HB hb; have NB101_196 := nl BK101 hg; have NB196_101 := nr BK101 hg; replace BK101 := bb BK101 hb; have NB102_196 := nl BK102 hg; have NB196_102 := nr BK102 hg; replace BK102 := bb BK102 hb; have NB114_196 := nl BK114 hg; have NB196_114 := nr BK114 hg; replace BK114 := bb BK114 hb; clear hb hbox hg; have hnb72 := NB196_101.out; have hnc72 := NB101_196.out; have hnb73 := NB196_102.out; have hnc73 := NB102_196.out; have hnb74 := NB196_114.out; have hnc74 := NB114_196.out; obtain ⟨hcz75_0, hcz75_1, hcz75_2, hcz75_3, hcz75_4, hcz75_5, hfz75_0, hfz75_1, hfz75_2, hfz75_3, hfz75_4, hfz75_5⟩ := cf6 BK196))
       go_loopg [22] k1 (fun kq v22 w' => ∃ (x22_2 : Int) (x197000_2 : Bool) (x197001_2 : Bool) (x197002_2 : Bool) (x197003_2 : Bool) (x197004_2 : Bool) (x197005_2 : Bool), v22 = .int .i64 x22_2 ∧ Aside0 (walkmilllaw05_TenterOrder.l3 kq t111 (Int.tmod (wrap64 (a2_0)) (wrap64 ((t111.length : Int) + 1))) t126 x12_1 x22_2 a2_0 a2_1 t103 t106 t109 t110 x197000_2 x197001_2 x197002_2 x197003_2 x197004_2 x197005_2 = some r) ∧ Aside0 (kq ≤ k1) ∧ Aside0 (Kd.R k40 40 w' w.heap.size (fun _ => True) (.slice Ao26 t111.length co26) t111) ∧ Aside0 (Kd.R (Kd.int .i64) 3 w' w.heap.size (fun k_ => some k_ ≠ ((.slice Ao70 x12_1.length co70) : Value).ownBlock ∧ some k_ ≠ ((.slice Ao19 t106.length co19) : Value).ownBlock) (.slice Ao69 t126.length co69) t126) ∧ Aside0 (Kd.R (Kd.int .i64) 3 w' w.heap.size (fun k_ => some k_ ≠ ((.slice Ao69 t126.length co69) : Value).ownBlock ∧ some k_ ≠ ((.slice Ao19 t106.length co19) : Value).ownBlock) (.slice Ao70 x12_1.length co70) x12_1) ∧ Aside0 (Kd.R k42 42 w' w.heap.size (fun _ => True) (.slice Ao17 t103.length co17) t103) ∧ Aside0 (Kd.R (Kd.int .i64) 3 w' w.heap.size (fun k_ => some k_ ≠ ((.slice Ao69 t126.length co69) : Value).ownBlock ∧ some k_ ≠ ((.slice Ao70 x12_1.length co70) : Value).ownBlock) (.slice Ao19 t106.length co19) t106) ∧ Aside0 (w'.heap[gb101]? = some (.cells #[(.slice A0_0 l0_0.length c0_0), .int .u8 a0_1, .int .u8 a0_2, .int .u8 a0_3, .int .u8 a0_4, .int .u8 a0_5, (.slice A0_6 l0_6.length c0_6)] 26 (0, 0))) ∧ Aside0 (w'.heap[gb102]? = some (.cells #[.int .u8 a2_0, .int .u8 a2_1] 65 (0, 0))) ∧ Aside0 (w'.heap[gb114]? = some (.cells #[(.slice Ao17 t103.length co17), (.slice Ao19 t106.length co19), .int .i64 t109, .int .i64 t110] 32 (0, 0))) ∧ Aside0 (w'.heap[gb196]? = some (.cells #[.bool x197000_2, .bool x197001_2, .bool x197002_2, .bool x197003_2, .bool x197004_2, .bool x197005_2] 59 (0, 0))) ∧ Aside0 (Below w.heap.size w w'))
       case atStart => exact ⟨(0), (false), (false), (false), (false), (false), (false), (by first | rfl | (simp; done) | (simp [*]; done)), H', ⟨Nat.le_refl _⟩, ⟨by (with_reducible repeat (first | apply Kd.R_alloc | apply Kd.R_drewN | apply Kd.R_drew)); exact Kd.R_mono (Kd.R_far (p := ⟨gb196, 5, none⟩) (Kd.R_far (p := ⟨gb196, 4, none⟩) (Kd.R_far (p := ⟨gb196, 3, none⟩) (Kd.R_far (p := ⟨gb196, 2, none⟩) (Kd.R_far (p := ⟨gb196, 1, none⟩) (Kd.R_far (p := ⟨gb196, 0, none⟩) (Kd.R_types HO_8.out BK196.out (by decide)) (fun _ hk => hk.2) (.bool false)) (fun _ hk => hk.2) (.bool false)) (fun _ hk => hk.2) (.bool false)) (fun _ hk => hk.2) (.bool false)) (fun _ hk => hk.2) (.bool false)) (fun _ hk => hk.2) (.bool false)) (fun _ hk => trivial)⟩, ⟨by (with_reducible repeat (first | apply Kd.R_alloc | apply Kd.R_drewN | apply Kd.R_drew)); exact Kd.R_mono (Kd.R_far (p := ⟨gb196, 5, none⟩) (Kd.R_far (p := ⟨gb196, 4, none⟩) (Kd.R_far (p := ⟨gb196, 3, none⟩) (Kd.R_far (p := ⟨gb196, 2, none⟩) (Kd.R_far (p := ⟨gb196, 1, none⟩) (Kd.R_far (p := ⟨gb196, 0, none⟩) (Kd.R_types HO_10.out BK196.out (by decide)) (fun _ hk => hk.2) (.bool false)) (fun _ hk => hk.2) (.bool false)) (fun _ hk => hk.2) (.bool false)) (fun _ hk => hk.2) (.bool false)) (fun _ hk => hk.2) (.bool false)) (fun _ hk => hk.2) (.bool false)) (fun _ hk => ⟨hk.1.1, hk.1.2⟩)⟩, ⟨by (with_reducible repeat (first | apply Kd.R_alloc | apply Kd.R_drewN | apply Kd.R_drew)); exact Kd.R_mono (Kd.R_far (p := ⟨gb196, 5, none⟩) (Kd.R_far (p := ⟨gb196, 4, none⟩) (Kd.R_far (p := ⟨gb196, 3, none⟩) (Kd.R_far (p := ⟨gb196, 2, none⟩) (Kd.R_far (p := ⟨gb196, 1, none⟩) (Kd.R_far (p := ⟨gb196, 0, none⟩) (Kd.R_types HO_12.out BK196.out (by decide)) (fun _ hk => hk.2) (.bool false)) (fun _ hk => hk.2) (.bool false)) (fun _ hk => hk.2) (.bool false)) (fun _ hk => hk.2) (.bool false)) (fun _ hk => hk.2) (.bool false)) (fun _ hk => hk.2) (.bool false)) (fun _ hk => ⟨hk.1.1, hk.1.2⟩)⟩, ⟨by (with_reducible repeat (first | apply Kd.R_alloc | apply Kd.R_drewN | apply Kd.R_drew)); exact Kd.R_mono (Kd.R_far (p := ⟨gb196, 5, none⟩) (Kd.R_far (p := ⟨gb196, 4, none⟩) (Kd.R_far (p := ⟨gb196, 3, none⟩) (Kd.R_far (p := ⟨gb196, 2, none⟩) (Kd.R_far (p := ⟨gb196, 1, none⟩) (Kd.R_far (p := ⟨gb196, 0, none⟩) (Kd.R_types HO_115000.out BK196.out (by decide)) (fun _ hk => hk.2) (.bool false)) (fun _ hk => hk.2) (.bool false)) (fun _ hk => hk.2) (.bool false)) (fun _ hk => hk.2) (.bool false)) (fun _ hk => hk.2) (.bool false)) (fun _ hk => hk.2) (.bool false)) (fun _ hk => trivial)⟩, ⟨by (with_reducible repeat (first | apply Kd.R_alloc | apply Kd.R_drewN | apply Kd.R_drew)); exact Kd.R_mono (Kd.R_far (p := ⟨gb196, 5, none⟩) (Kd.R_far (p := ⟨gb196, 4, none⟩) (Kd.R_far (p := ⟨gb196, 3, none⟩) (Kd.R_far (p := ⟨gb196, 2, none⟩) (Kd.R_far (p := ⟨gb196, 1, none⟩) (Kd.R_far (p := ⟨gb196, 0, none⟩) (Kd.R_types HO_115001.out BK196.out (by decide)) (fun _ hk => hk.2) (.bool false)) (fun _ hk => hk.2) (.bool false)) (fun _ hk => hk.2) (.bool false)) (fun _ hk => hk.2) (.bool false)) (fun _ hk => hk.2) (.bool false)) (fun _ hk => hk.2) (.bool false)) (fun _ hk => ⟨hk.1.1, hk.1.2⟩)⟩, ⟨by refine pB ?_; refine blk_far ?_ NB101_196.out _; refine pB ?_; refine blk_far ?_ NB101_196.out _; refine pB ?_; refine blk_far ?_ NB101_196.out _; refine pB ?_; refine blk_far ?_ NB101_196.out _; refine pB ?_; refine blk_far ?_ NB101_196.out _; refine pB ?_; refine blk_far ?_ NB101_196.out _; (with_reducible repeat (first | refine blk_drewN ?_ _ | refine blk_drew ?_ | refine blk_alloc ?_ _)); exact BK101.out⟩, ⟨by refine pB ?_; refine blk_far ?_ NB102_196.out _; refine pB ?_; refine blk_far ?_ NB102_196.out _; refine pB ?_; refine blk_far ?_ NB102_196.out _; refine pB ?_; refine blk_far ?_ NB102_196.out _; refine pB ?_; refine blk_far ?_ NB102_196.out _; refine pB ?_; refine blk_far ?_ NB102_196.out _; (with_reducible repeat (first | refine blk_drewN ?_ _ | refine blk_drew ?_ | refine blk_alloc ?_ _)); exact BK102.out⟩, ⟨by refine pB ?_; refine blk_far ?_ NB114_196.out _; refine pB ?_; refine blk_far ?_ NB114_196.out _; refine pB ?_; refine blk_far ?_ NB114_196.out _; refine pB ?_; refine blk_far ?_ NB114_196.out _; refine pB ?_; refine blk_far ?_ NB114_196.out _; refine pB ?_; refine blk_far ?_ NB114_196.out _; (with_reducible repeat (first | refine blk_drewN ?_ _ | refine blk_drew ?_ | refine blk_alloc ?_ _)); exact BK114.out⟩, ⟨by refine pB ?_; refine blk_put (cs := #[.bool false, .bool false, .bool false, .bool false, .bool false, .bool false]) ?_ 5 _ rfl; refine pB ?_; refine blk_put (cs := #[.bool false, .bool false, .bool false, .bool false, .bool false, .bool false]) ?_ 4 _ rfl; refine pB ?_; refine blk_put (cs := #[.bool false, .bool false, .bool false, .bool false, .bool false, .bool false]) ?_ 3 _ rfl; refine pB ?_; refine blk_put (cs := #[.bool false, .bool false, .bool false, .bool false, .bool false, .bool false]) ?_ 2 _ rfl; refine pB ?_; refine blk_put (cs := #[.bool false, .bool false, .bool false, .bool false, .bool false, .bool false]) ?_ 1 _ rfl; refine pB ?_; refine blk_put (cs := #[.bool false, .bool false, .bool false, .bool false, .bool false, .bool false]) ?_ 0 _ rfl; (with_reducible repeat (first | refine blk_drewN ?_ _ | refine blk_drew ?_ | refine blk_alloc ?_ _)); exact BK196.out⟩, ⟨pE HB⟩⟩
       case round =>
        clear H'
        try clear c1
        try clear c2
        try clear p2
        try clear c3
        try clear c4
        try clear c5
        try clear c6
        try clear c6b0
        try clear c6b1
        try clear p6
        try clear c7
        try clear c9
        try clear c22
        try clear c23
        try clear c24
        try clear c25
        try clear c27
        try clear c37
        try clear c37b0
        try clear c41
        try clear c41b0
        try clear c41b1
        try clear c42
        try clear c43
        try clear c44
        try clear c53
        try clear c54
        try clear c55
        try clear c64
        try clear c64b0
        try clear c64b1
        try clear p64
        try clear c65
        try clear c65b0
        try clear c65b1
        try clear c65b2
        try clear c66
        try clear c67
        try clear c72
        try clear c73
        try clear c74
        try clear hcz25_0
        try clear hcz25_1
        try clear hcz28_0
        try clear hcz28_1
        try clear hcz28_2
        try clear hcz28_3
        try clear hcz45_0
        try clear hcz45_1
        try clear hcz45_2
        try clear hcz45_3
        try clear hcz56_0
        try clear hcz56_1
        try clear hcz56_2
        try clear hcz56_3
        try clear hcz68_0
        try clear hcz68_1
        try clear hcz68_2
        try clear hcz68_3
        try clear hcz75_0
        try clear hcz75_1
        try clear hcz75_2
        try clear hcz75_3
        try clear hcz75_4
        try clear hcz75_5
        try clear hfz25_0
        try clear hfz25_1
        try clear hfz28_0
        try clear hfz28_1
        try clear hfz28_2
        try clear hfz28_3
        try clear hfz45_0
        try clear hfz45_1
        try clear hfz45_2
        try clear hfz45_3
        try clear hfz56_0
        try clear hfz56_1
        try clear hfz56_2
        try clear hfz56_3
        try clear hfz68_0
        try clear hfz68_1
        try clear hfz68_2
        try clear hfz68_3
        try clear hfz75_0
        try clear hfz75_1
        try clear hfz75_2
        try clear hfz75_3
        try clear hfz75_4
        try clear hfz75_5
        try clear p2
        try clear p6
        obtain ⟨x22_2, x197000_2, x197001_2, x197002_2, x197003_2, x197004_2, x197005_2, rfl, HA, HK2, HO_8, HO_10, HO_12, HO_115000, HO_115001, BK101, BK102, BK114, BK196, HB⟩ := hrel
        cases gk with
        | zero => exact absurd HA.out (by simp [walkmilllaw05_TenterOrder.l3])
        | succ k2 =>
         have H := HA.out
         clear HA
         simp only [walkmilllaw05_TenterOrder.l3] at H
         by_cases c76 : x22_2 < (t126.length : Int)
         ·
          rw [if_pos c76] at H
          have c76b0 : decide (x22_2 < (t126.length : Int)) = true := decide_eq_true c76
          clear c76
          by_cases c77 : 0 ≤ x22_2
          ·
           rw [if_pos c77] at H
           have c77b0 : decide (0 ≤ x22_2) = true := decide_eq_true c77
           clear c77
           by_cases c78 : (rd t126 x22_2) < 0
           ·
            rw [if_pos c78] at H
            have c78b0 : decide ((rd t126 x22_2) < 0) = true := decide_eq_true c78
            clear c78
            exact absurd ((Option.some.inj H).trans HRT.out) (by simp)
           ·
            rw [if_neg c78] at H
            have c78b0 : decide ((rd t126 x22_2) < 0) = false := decide_eq_false c78
            clear c78
            by_cases c79 : (rd t126 x22_2) ≥ (x12_1.length : Int)
            ·
             rw [if_pos c79] at H
             have c79b0 : decide ((x12_1.length : Int) ≤ (rd t126 x22_2)) = true := decide_eq_true c79
             clear c79
             exact absurd ((Option.some.inj H).trans HRT.out) (by simp)
            ·
             rw [if_neg c79] at H
             have c79b0 : decide ((x12_1.length : Int) ≤ (rd t126 x22_2)) = false := decide_eq_false c79
             clear c79
             by_cases c80 : (rd t126 x22_2) = 0
             ·
              rw [if_pos c80] at H
              have c80b0 : ((rd t126 x22_2) == 0) = true := beq_iff_eq.mpr c80
              have c80b1 : ((rd t126 x22_2) != 0) = false := bne_eq_false_iff_eq.mpr c80
              have CXc80 := Aside0.mk c80
              clear c80
              by_cases c81 : x197000_2 = true
              ·
               subst c81
               rw [if_pos rfl] at H
               exact absurd ((Option.some.inj H).trans HRT.out) (by simp)
              ·
               replace c81 := Bool.eq_false_iff.mpr c81
               subst c81
               rw [if_neg (show ¬ (false = true) by decide)] at H
               by_cases c82 : 0 ≤ (rd t126 x22_2)
               ·
                rw [if_pos c82] at H
                have c82b0 : decide (0 ≤ (rd t126 x22_2)) = true := decide_eq_true c82
                clear c82
                by_cases c83 : (rd t126 x22_2) < (x12_1.length : Int)
                ·
                 rw [if_pos c83] at H
                 have c83b0 : decide ((rd t126 x22_2) < (x12_1.length : Int)) = true := decide_eq_true c83
                 clear c83
                 by_cases c84 : (rd x12_1 (rd t126 x22_2)) < x22_2
                 ·
                  rw [if_pos c84] at H
                  have c84b0 : decide ((rd x12_1 (rd t126 x22_2)) < x22_2) = true := decide_eq_true c84
                  clear c84
                  exact absurd ((Option.some.inj H).trans HRT.out) (by simp)
                 ·
                  rw [if_neg c84] at H
                  have c84b0 : decide ((rd x12_1 (rd t126 x22_2)) < x22_2) = false := decide_eq_false c84
                  clear c84
                  have H' := Aside0.mk H
                  clear H
                  have p197 : 0 ≤ (x22_2 : Int) := dT
                  have q197 : x22_2 < (t126.length : Int) := dT
                  obtain ⟨ad197, e197, hx197_0⟩ := Kd.at_int (Kd.R_reads' HO_10.out).2.2 x22_2 p197 q197
                  cases e197
                  replace p197 := eq_true p197
                  replace q197 := eq_true q197
                  have p198 : 0 ≤ (x22_2 : Int) := dT
                  have q198 : x22_2 < (t126.length : Int) := dT
                  obtain ⟨ad198, e198, hx198_0⟩ := Kd.at_int (Kd.R_reads' HO_10.out).2.2 x22_2 p198 q198
                  obtain rfl : ad197 = ad198 := (by injection e198)
                  replace p198 := eq_true p198
                  replace q198 := eq_true q198
                  have p199 : 0 ≤ (x22_2 : Int) := dT
                  have q199 : x22_2 < (t126.length : Int) := dT
                  obtain ⟨ad199, e199, hx199_0⟩ := Kd.at_int (Kd.R_reads' HO_10.out).2.2 x22_2 p199 q199
                  obtain rfl : ad197 = ad199 := (by injection e199)
                  replace p199 := eq_true p199
                  replace q199 := eq_true q199
                  have hnb85 := NB196_101.out
                  have hnc85 := NB101_196.out
                  have hnb86 := NB196_102.out
                  have hnc86 := NB102_196.out
                  have hnb87 := NB196_114.out
                  have hnc87 := NB114_196.out
                  obtain ⟨hcz88_0, hcz88_1, hcz88_2, hcz88_3, hcz88_4, hcz88_5, hfz88_0, hfz88_1, hfz88_2, hfz88_3, hfz88_4, hfz88_5⟩ := cf6 BK196
                  have p200 : 0 ≤ (x22_2 : Int) := dT
                  have q200 : x22_2 < (t126.length : Int) := dT
                  obtain ⟨ad200, e200, hx200_0⟩ := Kd.at_int (Kd.R_reads' HO_10.out).2.2 x22_2 p200 q200
                  obtain rfl : ad197 = ad200 := (by injection e200)
                  replace p200 := eq_true p200
                  replace q200 := eq_true q200
                  have p201 : 0 ≤ ((rd t126 x22_2) : Int) := dT
                  have q201 : (rd t126 x22_2) < (x12_1.length : Int) := dT
                  obtain ⟨ad201, e201, hx201_0⟩ := Kd.at_int (Kd.R_reads' HO_12.out).2.2 (rd t126 x22_2) p201 q201
                  cases e201
                  replace p201 := eq_true p201
                  replace q201 := eq_true q201
                  have p202 : 0 ≤ (x22_2 : Int) := dT
                  have q202 : x22_2 < (t126.length : Int) := dT
                  obtain ⟨ad202, e202, hx202_0⟩ := Kd.at_int (Kd.R_reads' HO_10.out).2.2 x22_2 p202 q202
                  obtain rfl : ad197 = ad202 := (by injection e202)
                  replace p202 := eq_true p202
                  replace q202 := eq_true q202
                  have CYc80 : ((rd t126 x22_2) < 6) = True := eq_true (by rw [CXc80.out]; decide)
                  have CPc80 : (0 ≤ (rd t126 x22_2)) = True := eq_true (by rw [CXc80.out]; decide)
                  have CZc80 : ∀ (b_ : Nat) (p_ : _), (⟨b_, (rd t126 x22_2).toNat, p_⟩ : Addr) = ⟨b_, 0, p_⟩ := fun _ _ => by rw [CXc80.out]; rfl
                  go_wp2
                  go_roundg k2
                  case measure => have := HK1.out; have := HK2.out; omega
                  case rel => exact ⟨(wrap64 (x22_2 + 1)), (true), (x197001_2), (x197002_2), (x197003_2), (x197004_2), (x197005_2), (by first | rfl | (simp; done) | (simp [*]; done)), H', ⟨by have := HK1.out; have := HK2.out; omega⟩, ⟨by (with_reducible repeat (first | apply Kd.R_alloc | apply Kd.R_drewN | apply Kd.R_drew)); exact Kd.R_mono (Kd.R_far (p := ⟨gb196, 0, none⟩) (Kd.R_types HO_8.out BK196.out (by decide)) (fun _ hk => hk.2) (.bool true)) (fun _ hk => trivial)⟩, ⟨by (with_reducible repeat (first | apply Kd.R_alloc | apply Kd.R_drewN | apply Kd.R_drew)); exact Kd.R_mono (Kd.R_far (p := ⟨gb196, 0, none⟩) (Kd.R_types HO_10.out BK196.out (by decide)) (fun _ hk => hk.2) (.bool true)) (fun _ hk => ⟨hk.1.1, hk.1.2⟩)⟩, ⟨by (with_reducible repeat (first | apply Kd.R_alloc | apply Kd.R_drewN | apply Kd.R_drew)); exact Kd.R_mono (Kd.R_far (p := ⟨gb196, 0, none⟩) (Kd.R_types HO_12.out BK196.out (by decide)) (fun _ hk => hk.2) (.bool true)) (fun _ hk => ⟨hk.1.1, hk.1.2⟩)⟩, ⟨by (with_reducible repeat (first | apply Kd.R_alloc | apply Kd.R_drewN | apply Kd.R_drew)); exact Kd.R_mono (Kd.R_far (p := ⟨gb196, 0, none⟩) (Kd.R_types HO_115000.out BK196.out (by decide)) (fun _ hk => hk.2) (.bool true)) (fun _ hk => trivial)⟩, ⟨by (with_reducible repeat (first | apply Kd.R_alloc | apply Kd.R_drewN | apply Kd.R_drew)); exact Kd.R_mono (Kd.R_far (p := ⟨gb196, 0, none⟩) (Kd.R_types HO_115001.out BK196.out (by decide)) (fun _ hk => hk.2) (.bool true)) (fun _ hk => ⟨hk.1.1, hk.1.2⟩)⟩, ⟨by refine pB ?_; refine blk_far ?_ NB101_196.out _; (with_reducible repeat (first | refine blk_drewN ?_ _ | refine blk_drew ?_ | refine blk_alloc ?_ _)); exact BK101.out⟩, ⟨by refine pB ?_; refine blk_far ?_ NB102_196.out _; (with_reducible repeat (first | refine blk_drewN ?_ _ | refine blk_drew ?_ | refine blk_alloc ?_ _)); exact BK102.out⟩, ⟨by refine pB ?_; refine blk_far ?_ NB114_196.out _; (with_reducible repeat (first | refine blk_drewN ?_ _ | refine blk_drew ?_ | refine blk_alloc ?_ _)); exact BK114.out⟩, ⟨by refine pB ?_; refine blk_put (cs := #[.bool false, .bool x197001_2, .bool x197002_2, .bool x197003_2, .bool x197004_2, .bool x197005_2]) ?_ 0 _ rfl; (with_reducible repeat (first | refine blk_drewN ?_ _ | refine blk_drew ?_ | refine blk_alloc ?_ _)); exact BK196.out⟩, ⟨pE HB⟩⟩
                ·
                 rw [if_neg c83] at H
                 exact absurd H (by simp)
               ·
                rw [if_neg c82] at H
                exact absurd H (by simp)
             ·
              rw [if_neg c80] at H
              have c80b0 : ((rd t126 x22_2) == 0) = false := beq_eq_false_iff_ne.mpr c80
              have c80b1 : ((rd t126 x22_2) != 0) = true := bne_iff_ne.mpr c80
              by_cases c89 : (rd t126 x22_2) = 1
              ·
               rw [if_pos c89] at H
               have c89b0 : ((rd t126 x22_2) == 1) = true := beq_iff_eq.mpr c89
               have c89b1 : ((rd t126 x22_2) != 1) = false := bne_eq_false_iff_eq.mpr c89
               have CXc89 := Aside0.mk c89
               clear c89
               by_cases c90 : x197001_2 = true
               ·
                subst c90
                rw [if_pos rfl] at H
                exact absurd ((Option.some.inj H).trans HRT.out) (by simp)
               ·
                replace c90 := Bool.eq_false_iff.mpr c90
                subst c90
                rw [if_neg (show ¬ (false = true) by decide)] at H
                by_cases c91 : 0 ≤ (rd t126 x22_2)
                ·
                 rw [if_pos c91] at H
                 have c91b0 : decide (0 ≤ (rd t126 x22_2)) = true := decide_eq_true c91
                 clear c91
                 by_cases c92 : (rd t126 x22_2) < (x12_1.length : Int)
                 ·
                  rw [if_pos c92] at H
                  have c92b0 : decide ((rd t126 x22_2) < (x12_1.length : Int)) = true := decide_eq_true c92
                  clear c92
                  by_cases c93 : (rd x12_1 (rd t126 x22_2)) < x22_2
                  ·
                   rw [if_pos c93] at H
                   have c93b0 : decide ((rd x12_1 (rd t126 x22_2)) < x22_2) = true := decide_eq_true c93
                   clear c93
                   exact absurd ((Option.some.inj H).trans HRT.out) (by simp)
                  ·
                   rw [if_neg c93] at H
                   have c93b0 : decide ((rd x12_1 (rd t126 x22_2)) < x22_2) = false := decide_eq_false c93
                   clear c93
                   have H' := Aside0.mk H
                   clear H
                   have p197 : 0 ≤ (x22_2 : Int) := dT
                   have q197 : x22_2 < (t126.length : Int) := dT
                   obtain ⟨ad197, e197, hx197_0⟩ := Kd.at_int (Kd.R_reads' HO_10.out).2.2 x22_2 p197 q197
                   cases e197
                   replace p197 := eq_true p197
                   replace q197 := eq_true q197
                   have p198 : 0 ≤ (x22_2 : Int) := dT
                   have q198 : x22_2 < (t126.length : Int) := dT
                   obtain ⟨ad198, e198, hx198_0⟩ := Kd.at_int (Kd.R_reads' HO_10.out).2.2 x22_2 p198 q198
                   obtain rfl : ad197 = ad198 := (by injection e198)
                   replace p198 := eq_true p198
                   replace q198 := eq_true q198
                   have p199 : 0 ≤ (x22_2 : Int) := dT
                   have q199 : x22_2 < (t126.length : Int) := dT
                   obtain ⟨ad199, e199, hx199_0⟩ := Kd.at_int (Kd.R_reads' HO_10.out).2.2 x22_2 p199 q199
                   obtain rfl : ad197 = ad199 := (by injection e199)
                   replace p199 := eq_true p199
                   replace q199 := eq_true q199
                   have hnb94 := NB196_101.out
                   have hnc94 := NB101_196.out
                   have hnb95 := NB196_102.out
                   have hnc95 := NB102_196.out
                   have hnb96 := NB196_114.out
                   have hnc96 := NB114_196.out
                   obtain ⟨hcz97_0, hcz97_1, hcz97_2, hcz97_3, hcz97_4, hcz97_5, hfz97_0, hfz97_1, hfz97_2, hfz97_3, hfz97_4, hfz97_5⟩ := cf6 BK196
                   have p203 : 0 ≤ (x22_2 : Int) := dT
                   have q203 : x22_2 < (t126.length : Int) := dT
                   obtain ⟨ad203, e203, hx203_0⟩ := Kd.at_int (Kd.R_reads' HO_10.out).2.2 x22_2 p203 q203
                   obtain rfl : ad197 = ad203 := (by injection e203)
                   replace p203 := eq_true p203
                   replace q203 := eq_true q203
                   have p204 : 0 ≤ ((rd t126 x22_2) : Int) := dT
                   have q204 : (rd t126 x22_2) < (x12_1.length : Int) := dT
                   obtain ⟨ad204, e204, hx204_0⟩ := Kd.at_int (Kd.R_reads' HO_12.out).2.2 (rd t126 x22_2) p204 q204
                   cases e204
                   replace p204 := eq_true p204
                   replace q204 := eq_true q204
                   have p205 : 0 ≤ (x22_2 : Int) := dT
                   have q205 : x22_2 < (t126.length : Int) := dT
                   obtain ⟨ad205, e205, hx205_0⟩ := Kd.at_int (Kd.R_reads' HO_10.out).2.2 x22_2 p205 q205
                   obtain rfl : ad197 = ad205 := (by injection e205)
                   replace p205 := eq_true p205
                   replace q205 := eq_true q205
                   have CYc89 : ((rd t126 x22_2) < 6) = True := eq_true (by rw [CXc89.out]; decide)
                   have CPc89 : (0 ≤ (rd t126 x22_2)) = True := eq_true (by rw [CXc89.out]; decide)
                   have CZc89 : ∀ (b_ : Nat) (p_ : _), (⟨b_, (rd t126 x22_2).toNat, p_⟩ : Addr) = ⟨b_, 1, p_⟩ := fun _ _ => by rw [CXc89.out]; rfl
                   go_wp2
                   go_roundg k2
                   case measure => have := HK1.out; have := HK2.out; omega
                   case rel => exact ⟨(wrap64 (x22_2 + 1)), (x197000_2), (true), (x197002_2), (x197003_2), (x197004_2), (x197005_2), (by first | rfl | (simp; done) | (simp [*]; done)), H', ⟨by have := HK1.out; have := HK2.out; omega⟩, ⟨by (with_reducible repeat (first | apply Kd.R_alloc | apply Kd.R_drewN | apply Kd.R_drew)); exact Kd.R_mono (Kd.R_far (p := ⟨gb196, 1, none⟩) (Kd.R_types HO_8.out BK196.out (by decide)) (fun _ hk => hk.2) (.bool true)) (fun _ hk => trivial)⟩, ⟨by (with_reducible repeat (first | apply Kd.R_alloc | apply Kd.R_drewN | apply Kd.R_drew)); exact Kd.R_mono (Kd.R_far (p := ⟨gb196, 1, none⟩) (Kd.R_types HO_10.out BK196.out (by decide)) (fun _ hk => hk.2) (.bool true)) (fun _ hk => ⟨hk.1.1, hk.1.2⟩)⟩, ⟨by (with_reducible repeat (first | apply Kd.R_alloc | apply Kd.R_drewN | apply Kd.R_drew)); exact Kd.R_mono (Kd.R_far (p := ⟨gb196, 1, none⟩) (Kd.R_types HO_12.out BK196.out (by decide)) (fun _ hk => hk.2) (.bool true)) (fun _ hk => ⟨hk.1.1, hk.1.2⟩)⟩, ⟨by (with_reducible repeat (first | apply Kd.R_alloc | apply Kd.R_drewN | apply Kd.R_drew)); exact Kd.R_mono (Kd.R_far (p := ⟨gb196, 1, none⟩) (Kd.R_types HO_115000.out BK196.out (by decide)) (fun _ hk => hk.2) (.bool true)) (fun _ hk => trivial)⟩, ⟨by (with_reducible repeat (first | apply Kd.R_alloc | apply Kd.R_drewN | apply Kd.R_drew)); exact Kd.R_mono (Kd.R_far (p := ⟨gb196, 1, none⟩) (Kd.R_types HO_115001.out BK196.out (by decide)) (fun _ hk => hk.2) (.bool true)) (fun _ hk => ⟨hk.1.1, hk.1.2⟩)⟩, ⟨by refine pB ?_; refine blk_far ?_ NB101_196.out _; (with_reducible repeat (first | refine blk_drewN ?_ _ | refine blk_drew ?_ | refine blk_alloc ?_ _)); exact BK101.out⟩, ⟨by refine pB ?_; refine blk_far ?_ NB102_196.out _; (with_reducible repeat (first | refine blk_drewN ?_ _ | refine blk_drew ?_ | refine blk_alloc ?_ _)); exact BK102.out⟩, ⟨by refine pB ?_; refine blk_far ?_ NB114_196.out _; (with_reducible repeat (first | refine blk_drewN ?_ _ | refine blk_drew ?_ | refine blk_alloc ?_ _)); exact BK114.out⟩, ⟨by refine pB ?_; refine blk_put (cs := #[.bool x197000_2, .bool false, .bool x197002_2, .bool x197003_2, .bool x197004_2, .bool x197005_2]) ?_ 1 _ rfl; (with_reducible repeat (first | refine blk_drewN ?_ _ | refine blk_drew ?_ | refine blk_alloc ?_ _)); exact BK196.out⟩, ⟨pE HB⟩⟩
                 ·
                  rw [if_neg c92] at H
                  exact absurd H (by simp)
                ·
                 rw [if_neg c91] at H
                 exact absurd H (by simp)
              ·
               rw [if_neg c89] at H
               have c89b0 : ((rd t126 x22_2) == 1) = false := beq_eq_false_iff_ne.mpr c89
               have c89b1 : ((rd t126 x22_2) != 1) = true := bne_iff_ne.mpr c89
               by_cases c98 : (rd t126 x22_2) = 2
               ·
                rw [if_pos c98] at H
                have c98b0 : ((rd t126 x22_2) == 2) = true := beq_iff_eq.mpr c98
                have c98b1 : ((rd t126 x22_2) != 2) = false := bne_eq_false_iff_eq.mpr c98
                have CXc98 := Aside0.mk c98
                clear c98
                by_cases c99 : x197002_2 = true
                ·
                 subst c99
                 rw [if_pos rfl] at H
                 exact absurd ((Option.some.inj H).trans HRT.out) (by simp)
                ·
                 replace c99 := Bool.eq_false_iff.mpr c99
                 subst c99
                 rw [if_neg (show ¬ (false = true) by decide)] at H
                 by_cases c100 : 0 ≤ (rd t126 x22_2)
                 ·
                  rw [if_pos c100] at H
                  have c100b0 : decide (0 ≤ (rd t126 x22_2)) = true := decide_eq_true c100
                  clear c100
                  by_cases c101 : (rd t126 x22_2) < (x12_1.length : Int)
                  ·
                   rw [if_pos c101] at H
                   have c101b0 : decide ((rd t126 x22_2) < (x12_1.length : Int)) = true := decide_eq_true c101
                   clear c101
                   by_cases c102 : (rd x12_1 (rd t126 x22_2)) < x22_2
                   ·
                    rw [if_pos c102] at H
                    have c102b0 : decide ((rd x12_1 (rd t126 x22_2)) < x22_2) = true := decide_eq_true c102
                    clear c102
                    exact absurd ((Option.some.inj H).trans HRT.out) (by simp)
                   ·
                    rw [if_neg c102] at H
                    have c102b0 : decide ((rd x12_1 (rd t126 x22_2)) < x22_2) = false := decide_eq_false c102
                    clear c102
                    have H' := Aside0.mk H
                    clear H
                    have p197 : 0 ≤ (x22_2 : Int) := dT
                    have q197 : x22_2 < (t126.length : Int) := dT
                    obtain ⟨ad197, e197, hx197_0⟩ := Kd.at_int (Kd.R_reads' HO_10.out).2.2 x22_2 p197 q197
                    cases e197
                    replace p197 := eq_true p197
                    replace q197 := eq_true q197
                    have p198 : 0 ≤ (x22_2 : Int) := dT
                    have q198 : x22_2 < (t126.length : Int) := dT
                    obtain ⟨ad198, e198, hx198_0⟩ := Kd.at_int (Kd.R_reads' HO_10.out).2.2 x22_2 p198 q198
                    obtain rfl : ad197 = ad198 := (by injection e198)
                    replace p198 := eq_true p198
                    replace q198 := eq_true q198
                    have p199 : 0 ≤ (x22_2 : Int) := dT
                    have q199 : x22_2 < (t126.length : Int) := dT
                    obtain ⟨ad199, e199, hx199_0⟩ := Kd.at_int (Kd.R_reads' HO_10.out).2.2 x22_2 p199 q199
                    obtain rfl : ad197 = ad199 := (by injection e199)
                    replace p199 := eq_true p199
                    replace q199 := eq_true q199
                    have hnb103 := NB196_101.out
                    have hnc103 := NB101_196.out
                    have hnb104 := NB196_102.out
                    have hnc104 := NB102_196.out
                    have hnb105 := NB196_114.out
                    have hnc105 := NB114_196.out
                    obtain ⟨hcz106_0, hcz106_1, hcz106_2, hcz106_3, hcz106_4, hcz106_5, hfz106_0, hfz106_1, hfz106_2, hfz106_3, hfz106_4, hfz106_5⟩ := cf6 BK196
                    have p206 : 0 ≤ (x22_2 : Int) := dT
                    have q206 : x22_2 < (t126.length : Int) := dT
                    obtain ⟨ad206, e206, hx206_0⟩ := Kd.at_int (Kd.R_reads' HO_10.out).2.2 x22_2 p206 q206
                    obtain rfl : ad197 = ad206 := (by injection e206)
                    replace p206 := eq_true p206
                    replace q206 := eq_true q206
                    have p207 : 0 ≤ ((rd t126 x22_2) : Int) := dT
                    have q207 : (rd t126 x22_2) < (x12_1.length : Int) := dT
                    obtain ⟨ad207, e207, hx207_0⟩ := Kd.at_int (Kd.R_reads' HO_12.out).2.2 (rd t126 x22_2) p207 q207
                    cases e207
                    replace p207 := eq_true p207
                    replace q207 := eq_true q207
                    have p208 : 0 ≤ (x22_2 : Int) := dT
                    have q208 : x22_2 < (t126.length : Int) := dT
                    obtain ⟨ad208, e208, hx208_0⟩ := Kd.at_int (Kd.R_reads' HO_10.out).2.2 x22_2 p208 q208
                    obtain rfl : ad197 = ad208 := (by injection e208)
                    replace p208 := eq_true p208
                    replace q208 := eq_true q208
                    have CYc98 : ((rd t126 x22_2) < 6) = True := eq_true (by rw [CXc98.out]; decide)
                    have CPc98 : (0 ≤ (rd t126 x22_2)) = True := eq_true (by rw [CXc98.out]; decide)
                    have CZc98 : ∀ (b_ : Nat) (p_ : _), (⟨b_, (rd t126 x22_2).toNat, p_⟩ : Addr) = ⟨b_, 2, p_⟩ := fun _ _ => by rw [CXc98.out]; rfl
                    go_wp2
                    go_roundg k2
                    case measure => have := HK1.out; have := HK2.out; omega
                    case rel => exact ⟨(wrap64 (x22_2 + 1)), (x197000_2), (x197001_2), (true), (x197003_2), (x197004_2), (x197005_2), (by first | rfl | (simp; done) | (simp [*]; done)), H', ⟨by have := HK1.out; have := HK2.out; omega⟩, ⟨by (with_reducible repeat (first | apply Kd.R_alloc | apply Kd.R_drewN | apply Kd.R_drew)); exact Kd.R_mono (Kd.R_far (p := ⟨gb196, 2, none⟩) (Kd.R_types HO_8.out BK196.out (by decide)) (fun _ hk => hk.2) (.bool true)) (fun _ hk => trivial)⟩, ⟨by (with_reducible repeat (first | apply Kd.R_alloc | apply Kd.R_drewN | apply Kd.R_drew)); exact Kd.R_mono (Kd.R_far (p := ⟨gb196, 2, none⟩) (Kd.R_types HO_10.out BK196.out (by decide)) (fun _ hk => hk.2) (.bool true)) (fun _ hk => ⟨hk.1.1, hk.1.2⟩)⟩, ⟨by (with_reducible repeat (first | apply Kd.R_alloc | apply Kd.R_drewN | apply Kd.R_drew)); exact Kd.R_mono (Kd.R_far (p := ⟨gb196, 2, none⟩) (Kd.R_types HO_12.out BK196.out (by decide)) (fun _ hk => hk.2) (.bool true)) (fun _ hk => ⟨hk.1.1, hk.1.2⟩)⟩, ⟨by (with_reducible repeat (first | apply Kd.R_alloc | apply Kd.R_drewN | apply Kd.R_drew)); exact Kd.R_mono (Kd.R_far (p := ⟨gb196, 2, none⟩) (Kd.R_types HO_115000.out BK196.out (by decide)) (fun _ hk => hk.2) (.bool true)) (fun _ hk => trivial)⟩, ⟨by (with_reducible repeat (first | apply Kd.R_alloc | apply Kd.R_drewN | apply Kd.R_drew)); exact Kd.R_mono (Kd.R_far (p := ⟨gb196, 2, none⟩) (Kd.R_types HO_115001.out BK196.out (by decide)) (fun _ hk => hk.2) (.bool true)) (fun _ hk => ⟨hk.1.1, hk.1.2⟩)⟩, ⟨by refine pB ?_; refine blk_far ?_ NB101_196.out _; (with_reducible repeat (first | refine blk_drewN ?_ _ | refine blk_drew ?_ | refine blk_alloc ?_ _)); exact BK101.out⟩, ⟨by refine pB ?_; refine blk_far ?_ NB102_196.out _; (with_reducible repeat (first | refine blk_drewN ?_ _ | refine blk_drew ?_ | refine blk_alloc ?_ _)); exact BK102.out⟩, ⟨by refine pB ?_; refine blk_far ?_ NB114_196.out _; (with_reducible repeat (first | refine blk_drewN ?_ _ | refine blk_drew ?_ | refine blk_alloc ?_ _)); exact BK114.out⟩, ⟨by refine pB ?_; refine blk_put (cs := #[.bool x197000_2, .bool x197001_2, .bool false, .bool x197003_2, .bool x197004_2, .bool x197005_2]) ?_ 2 _ rfl; (with_reducible repeat (first | refine blk_drewN ?_ _ | refine blk_drew ?_ | refine blk_alloc ?_ _)); exact BK196.out⟩, ⟨pE HB⟩⟩
                  ·
                   rw [if_neg c101] at H
                   exact absurd H (by simp)
                 ·
                  rw [if_neg c100] at H
                  exact absurd H (by simp)
               ·
                rw [if_neg c98] at H
                have c98b0 : ((rd t126 x22_2) == 2) = false := beq_eq_false_iff_ne.mpr c98
                have c98b1 : ((rd t126 x22_2) != 2) = true := bne_iff_ne.mpr c98
                by_cases c107 : (rd t126 x22_2) = 3
                ·
                 rw [if_pos c107] at H
                 have c107b0 : ((rd t126 x22_2) == 3) = true := beq_iff_eq.mpr c107
                 have c107b1 : ((rd t126 x22_2) != 3) = false := bne_eq_false_iff_eq.mpr c107
                 have CXc107 := Aside0.mk c107
                 clear c107
                 by_cases c108 : x197003_2 = true
                 ·
                  subst c108
                  rw [if_pos rfl] at H
                  exact absurd ((Option.some.inj H).trans HRT.out) (by simp)
                 ·
                  replace c108 := Bool.eq_false_iff.mpr c108
                  subst c108
                  rw [if_neg (show ¬ (false = true) by decide)] at H
                  by_cases c109 : 0 ≤ (rd t126 x22_2)
                  ·
                   rw [if_pos c109] at H
                   have c109b0 : decide (0 ≤ (rd t126 x22_2)) = true := decide_eq_true c109
                   clear c109
                   by_cases c110 : (rd t126 x22_2) < (x12_1.length : Int)
                   ·
                    rw [if_pos c110] at H
                    have c110b0 : decide ((rd t126 x22_2) < (x12_1.length : Int)) = true := decide_eq_true c110
                    clear c110
                    by_cases c111 : (rd x12_1 (rd t126 x22_2)) < x22_2
                    ·
                     rw [if_pos c111] at H
                     have c111b0 : decide ((rd x12_1 (rd t126 x22_2)) < x22_2) = true := decide_eq_true c111
                     clear c111
                     exact absurd ((Option.some.inj H).trans HRT.out) (by simp)
                    ·
                     rw [if_neg c111] at H
                     have c111b0 : decide ((rd x12_1 (rd t126 x22_2)) < x22_2) = false := decide_eq_false c111
                     clear c111
                     have H' := Aside0.mk H
                     clear H
                     have p197 : 0 ≤ (x22_2 : Int) := dT
                     have q197 : x22_2 < (t126.length : Int) := dT
                     obtain ⟨ad197, e197, hx197_0⟩ := Kd.at_int (Kd.R_reads' HO_10.out).2.2 x22_2 p197 q197
                     cases e197
                     replace p197 := eq_true p197
                     replace q197 := eq_true q197
                     have p198 : 0 ≤ (x22_2 : Int) := dT
                     have q198 : x22_2 < (t126.length : Int) := dT
                     obtain ⟨ad198, e198, hx198_0⟩ := Kd.at_int (Kd.R_reads' HO_10.out).2.2 x22_2 p198 q198
                     obtain rfl : ad197 = ad198 := (by injection e198)
                     replace p198 := eq_true p198
                     replace q198 := eq_true q198
                     have p199 : 0 ≤ (x22_2 : Int) := dT
                     have q199 : x22_2 < (t126.length : Int) := dT
                     obtain ⟨ad199, e199, hx199_0⟩ := Kd.at_int (Kd.R_reads' HO_10.out).2.2 x22_2 p199 q199
                     obtain rfl : ad197 = ad199 := (by injection e199)
                     replace p199 := eq_true p199
                     replace q199 := eq_true q199
                     have hnb112 := NB196_101.out
                     have hnc112 := NB101_196.out
                     have hnb113 := NB196_102.out
                     have hnc113 := NB102_196.out
                     have hnb114 := NB196_114.out
                     have hnc114 := NB114_196.out
                     obtain ⟨hcz115_0, hcz115_1, hcz115_2, hcz115_3, hcz115_4, hcz115_5, hfz115_0, hfz115_1, hfz115_2, hfz115_3, hfz115_4, hfz115_5⟩ := cf6 BK196
                     have p209 : 0 ≤ (x22_2 : Int) := dT
                     have q209 : x22_2 < (t126.length : Int) := dT
                     obtain ⟨ad209, e209, hx209_0⟩ := Kd.at_int (Kd.R_reads' HO_10.out).2.2 x22_2 p209 q209
                     obtain rfl : ad197 = ad209 := (by injection e209)
                     replace p209 := eq_true p209
                     replace q209 := eq_true q209
                     have p210 : 0 ≤ ((rd t126 x22_2) : Int) := dT
                     have q210 : (rd t126 x22_2) < (x12_1.length : Int) := dT
                     obtain ⟨ad210, e210, hx210_0⟩ := Kd.at_int (Kd.R_reads' HO_12.out).2.2 (rd t126 x22_2) p210 q210
                     cases e210
                     replace p210 := eq_true p210
                     replace q210 := eq_true q210
                     have p211 : 0 ≤ (x22_2 : Int) := dT
                     have q211 : x22_2 < (t126.length : Int) := dT
                     obtain ⟨ad211, e211, hx211_0⟩ := Kd.at_int (Kd.R_reads' HO_10.out).2.2 x22_2 p211 q211
                     obtain rfl : ad197 = ad211 := (by injection e211)
                     replace p211 := eq_true p211
                     replace q211 := eq_true q211
                     have CYc107 : ((rd t126 x22_2) < 6) = True := eq_true (by rw [CXc107.out]; decide)
                     have CPc107 : (0 ≤ (rd t126 x22_2)) = True := eq_true (by rw [CXc107.out]; decide)
                     have CZc107 : ∀ (b_ : Nat) (p_ : _), (⟨b_, (rd t126 x22_2).toNat, p_⟩ : Addr) = ⟨b_, 3, p_⟩ := fun _ _ => by rw [CXc107.out]; rfl
                     go_wp2
                     go_roundg k2
                     case measure => have := HK1.out; have := HK2.out; omega
                     case rel => exact ⟨(wrap64 (x22_2 + 1)), (x197000_2), (x197001_2), (x197002_2), (true), (x197004_2), (x197005_2), (by first | rfl | (simp; done) | (simp [*]; done)), H', ⟨by have := HK1.out; have := HK2.out; omega⟩, ⟨by (with_reducible repeat (first | apply Kd.R_alloc | apply Kd.R_drewN | apply Kd.R_drew)); exact Kd.R_mono (Kd.R_far (p := ⟨gb196, 3, none⟩) (Kd.R_types HO_8.out BK196.out (by decide)) (fun _ hk => hk.2) (.bool true)) (fun _ hk => trivial)⟩, ⟨by (with_reducible repeat (first | apply Kd.R_alloc | apply Kd.R_drewN | apply Kd.R_drew)); exact Kd.R_mono (Kd.R_far (p := ⟨gb196, 3, none⟩) (Kd.R_types HO_10.out BK196.out (by decide)) (fun _ hk => hk.2) (.bool true)) (fun _ hk => ⟨hk.1.1, hk.1.2⟩)⟩, ⟨by (with_reducible repeat (first | apply Kd.R_alloc | apply Kd.R_drewN | apply Kd.R_drew)); exact Kd.R_mono (Kd.R_far (p := ⟨gb196, 3, none⟩) (Kd.R_types HO_12.out BK196.out (by decide)) (fun _ hk => hk.2) (.bool true)) (fun _ hk => ⟨hk.1.1, hk.1.2⟩)⟩, ⟨by (with_reducible repeat (first | apply Kd.R_alloc | apply Kd.R_drewN | apply Kd.R_drew)); exact Kd.R_mono (Kd.R_far (p := ⟨gb196, 3, none⟩) (Kd.R_types HO_115000.out BK196.out (by decide)) (fun _ hk => hk.2) (.bool true)) (fun _ hk => trivial)⟩, ⟨by (with_reducible repeat (first | apply Kd.R_alloc | apply Kd.R_drewN | apply Kd.R_drew)); exact Kd.R_mono (Kd.R_far (p := ⟨gb196, 3, none⟩) (Kd.R_types HO_115001.out BK196.out (by decide)) (fun _ hk => hk.2) (.bool true)) (fun _ hk => ⟨hk.1.1, hk.1.2⟩)⟩, ⟨by refine pB ?_; refine blk_far ?_ NB101_196.out _; (with_reducible repeat (first | refine blk_drewN ?_ _ | refine blk_drew ?_ | refine blk_alloc ?_ _)); exact BK101.out⟩, ⟨by refine pB ?_; refine blk_far ?_ NB102_196.out _; (with_reducible repeat (first | refine blk_drewN ?_ _ | refine blk_drew ?_ | refine blk_alloc ?_ _)); exact BK102.out⟩, ⟨by refine pB ?_; refine blk_far ?_ NB114_196.out _; (with_reducible repeat (first | refine blk_drewN ?_ _ | refine blk_drew ?_ | refine blk_alloc ?_ _)); exact BK114.out⟩, ⟨by refine pB ?_; refine blk_put (cs := #[.bool x197000_2, .bool x197001_2, .bool x197002_2, .bool false, .bool x197004_2, .bool x197005_2]) ?_ 3 _ rfl; (with_reducible repeat (first | refine blk_drewN ?_ _ | refine blk_drew ?_ | refine blk_alloc ?_ _)); exact BK196.out⟩, ⟨pE HB⟩⟩
                   ·
                    rw [if_neg c110] at H
                    exact absurd H (by simp)
                  ·
                   rw [if_neg c109] at H
                   exact absurd H (by simp)
                ·
                 rw [if_neg c107] at H
                 have c107b0 : ((rd t126 x22_2) == 3) = false := beq_eq_false_iff_ne.mpr c107
                 have c107b1 : ((rd t126 x22_2) != 3) = true := bne_iff_ne.mpr c107
                 by_cases c116 : (rd t126 x22_2) = 4
                 ·
                  rw [if_pos c116] at H
                  have c116b0 : ((rd t126 x22_2) == 4) = true := beq_iff_eq.mpr c116
                  have c116b1 : ((rd t126 x22_2) != 4) = false := bne_eq_false_iff_eq.mpr c116
                  have CXc116 := Aside0.mk c116
                  clear c116
                  by_cases c117 : x197004_2 = true
                  ·
                   subst c117
                   rw [if_pos rfl] at H
                   exact absurd ((Option.some.inj H).trans HRT.out) (by simp)
                  ·
                   replace c117 := Bool.eq_false_iff.mpr c117
                   subst c117
                   rw [if_neg (show ¬ (false = true) by decide)] at H
                   by_cases c118 : 0 ≤ (rd t126 x22_2)
                   ·
                    rw [if_pos c118] at H
                    have c118b0 : decide (0 ≤ (rd t126 x22_2)) = true := decide_eq_true c118
                    clear c118
                    by_cases c119 : (rd t126 x22_2) < (x12_1.length : Int)
                    ·
                     rw [if_pos c119] at H
                     have c119b0 : decide ((rd t126 x22_2) < (x12_1.length : Int)) = true := decide_eq_true c119
                     clear c119
                     by_cases c120 : (rd x12_1 (rd t126 x22_2)) < x22_2
                     ·
                      rw [if_pos c120] at H
                      have c120b0 : decide ((rd x12_1 (rd t126 x22_2)) < x22_2) = true := decide_eq_true c120
                      clear c120
                      exact absurd ((Option.some.inj H).trans HRT.out) (by simp)
                     ·
                      rw [if_neg c120] at H
                      have c120b0 : decide ((rd x12_1 (rd t126 x22_2)) < x22_2) = false := decide_eq_false c120
                      clear c120
                      have H' := Aside0.mk H
                      clear H
                      have p197 : 0 ≤ (x22_2 : Int) := dT
                      have q197 : x22_2 < (t126.length : Int) := dT
                      obtain ⟨ad197, e197, hx197_0⟩ := Kd.at_int (Kd.R_reads' HO_10.out).2.2 x22_2 p197 q197
                      cases e197
                      replace p197 := eq_true p197
                      replace q197 := eq_true q197
                      have p198 : 0 ≤ (x22_2 : Int) := dT
                      have q198 : x22_2 < (t126.length : Int) := dT
                      obtain ⟨ad198, e198, hx198_0⟩ := Kd.at_int (Kd.R_reads' HO_10.out).2.2 x22_2 p198 q198
                      obtain rfl : ad197 = ad198 := (by injection e198)
                      replace p198 := eq_true p198
                      replace q198 := eq_true q198
                      have p199 : 0 ≤ (x22_2 : Int) := dT
                      have q199 : x22_2 < (t126.length : Int) := dT
                      obtain ⟨ad199, e199, hx199_0⟩ := Kd.at_int (Kd.R_reads' HO_10.out).2.2 x22_2 p199 q199
                      obtain rfl : ad197 = ad199 := (by injection e199)
                      replace p199 := eq_true p199
                      replace q199 := eq_true q199
                      have hnb121 := NB196_101.out
                      have hnc121 := NB101_196.out
                      have hnb122 := NB196_102.out
                      have hnc122 := NB102_196.out
                      have hnb123 := NB196_114.out
                      have hnc123 := NB114_196.out
                      obtain ⟨hcz124_0, hcz124_1, hcz124_2, hcz124_3, hcz124_4, hcz124_5, hfz124_0, hfz124_1, hfz124_2, hfz124_3, hfz124_4, hfz124_5⟩ := cf6 BK196
                      have p212 : 0 ≤ (x22_2 : Int) := dT
                      have q212 : x22_2 < (t126.length : Int) := dT
                      obtain ⟨ad212, e212, hx212_0⟩ := Kd.at_int (Kd.R_reads' HO_10.out).2.2 x22_2 p212 q212
                      obtain rfl : ad197 = ad212 := (by injection e212)
                      replace p212 := eq_true p212
                      replace q212 := eq_true q212
                      have p213 : 0 ≤ ((rd t126 x22_2) : Int) := dT
                      have q213 : (rd t126 x22_2) < (x12_1.length : Int) := dT
                      obtain ⟨ad213, e213, hx213_0⟩ := Kd.at_int (Kd.R_reads' HO_12.out).2.2 (rd t126 x22_2) p213 q213
                      cases e213
                      replace p213 := eq_true p213
                      replace q213 := eq_true q213
                      have p214 : 0 ≤ (x22_2 : Int) := dT
                      have q214 : x22_2 < (t126.length : Int) := dT
                      obtain ⟨ad214, e214, hx214_0⟩ := Kd.at_int (Kd.R_reads' HO_10.out).2.2 x22_2 p214 q214
                      obtain rfl : ad197 = ad214 := (by injection e214)
                      replace p214 := eq_true p214
                      replace q214 := eq_true q214
                      have CYc116 : ((rd t126 x22_2) < 6) = True := eq_true (by rw [CXc116.out]; decide)
                      have CPc116 : (0 ≤ (rd t126 x22_2)) = True := eq_true (by rw [CXc116.out]; decide)
                      have CZc116 : ∀ (b_ : Nat) (p_ : _), (⟨b_, (rd t126 x22_2).toNat, p_⟩ : Addr) = ⟨b_, 4, p_⟩ := fun _ _ => by rw [CXc116.out]; rfl
                      go_wp2
                      go_roundg k2
                      case measure => have := HK1.out; have := HK2.out; omega
                      case rel => exact ⟨(wrap64 (x22_2 + 1)), (x197000_2), (x197001_2), (x197002_2), (x197003_2), (true), (x197005_2), (by first | rfl | (simp; done) | (simp [*]; done)), H', ⟨by have := HK1.out; have := HK2.out; omega⟩, ⟨by (with_reducible repeat (first | apply Kd.R_alloc | apply Kd.R_drewN | apply Kd.R_drew)); exact Kd.R_mono (Kd.R_far (p := ⟨gb196, 4, none⟩) (Kd.R_types HO_8.out BK196.out (by decide)) (fun _ hk => hk.2) (.bool true)) (fun _ hk => trivial)⟩, ⟨by (with_reducible repeat (first | apply Kd.R_alloc | apply Kd.R_drewN | apply Kd.R_drew)); exact Kd.R_mono (Kd.R_far (p := ⟨gb196, 4, none⟩) (Kd.R_types HO_10.out BK196.out (by decide)) (fun _ hk => hk.2) (.bool true)) (fun _ hk => ⟨hk.1.1, hk.1.2⟩)⟩, ⟨by (with_reducible repeat (first | apply Kd.R_alloc | apply Kd.R_drewN | apply Kd.R_drew)); exact Kd.R_mono (Kd.R_far (p := ⟨gb196, 4, none⟩) (Kd.R_types HO_12.out BK196.out (by decide)) (fun _ hk => hk.2) (.bool true)) (fun _ hk => ⟨hk.1.1, hk.1.2⟩)⟩, ⟨by (with_reducible repeat (first | apply Kd.R_alloc | apply Kd.R_drewN | apply Kd.R_drew)); exact Kd.R_mono (Kd.R_far (p := ⟨gb196, 4, none⟩) (Kd.R_types HO_115000.out BK196.out (by decide)) (fun _ hk => hk.2) (.bool true)) (fun _ hk => trivial)⟩, ⟨by (with_reducible repeat (first | apply Kd.R_alloc | apply Kd.R_drewN | apply Kd.R_drew)); exact Kd.R_mono (Kd.R_far (p := ⟨gb196, 4, none⟩) (Kd.R_types HO_115001.out BK196.out (by decide)) (fun _ hk => hk.2) (.bool true)) (fun _ hk => ⟨hk.1.1, hk.1.2⟩)⟩, ⟨by refine pB ?_; refine blk_far ?_ NB101_196.out _; (with_reducible repeat (first | refine blk_drewN ?_ _ | refine blk_drew ?_ | refine blk_alloc ?_ _)); exact BK101.out⟩, ⟨by refine pB ?_; refine blk_far ?_ NB102_196.out _; (with_reducible repeat (first | refine blk_drewN ?_ _ | refine blk_drew ?_ | refine blk_alloc ?_ _)); exact BK102.out⟩, ⟨by refine pB ?_; refine blk_far ?_ NB114_196.out _; (with_reducible repeat (first | refine blk_drewN ?_ _ | refine blk_drew ?_ | refine blk_alloc ?_ _)); exact BK114.out⟩, ⟨by refine pB ?_; refine blk_put (cs := #[.bool x197000_2, .bool x197001_2, .bool x197002_2, .bool x197003_2, .bool false, .bool x197005_2]) ?_ 4 _ rfl; (with_reducible repeat (first | refine blk_drewN ?_ _ | refine blk_drew ?_ | refine blk_alloc ?_ _)); exact BK196.out⟩, ⟨pE HB⟩⟩
                    ·
                     rw [if_neg c119] at H
                     exact absurd H (by simp)
                   ·
                    rw [if_neg c118] at H
                    exact absurd H (by simp)
                 ·
                  rw [if_neg c116] at H
                  have c116b0 : ((rd t126 x22_2) == 4) = false := beq_eq_false_iff_ne.mpr c116
                  have c116b1 : ((rd t126 x22_2) != 4) = true := bne_iff_ne.mpr c116
                  by_cases c125 : (rd t126 x22_2) = 5
                  ·
                   rw [if_pos c125] at H
                   have c125b0 : ((rd t126 x22_2) == 5) = true := beq_iff_eq.mpr c125
                   have c125b1 : ((rd t126 x22_2) != 5) = false := bne_eq_false_iff_eq.mpr c125
                   have CXc125 := Aside0.mk c125
                   clear c125
                   by_cases c126 : x197005_2 = true
                   ·
                    subst c126
                    rw [if_pos rfl] at H
                    exact absurd ((Option.some.inj H).trans HRT.out) (by simp)
                   ·
                    replace c126 := Bool.eq_false_iff.mpr c126
                    subst c126
                    rw [if_neg (show ¬ (false = true) by decide)] at H
                    by_cases c127 : 0 ≤ (rd t126 x22_2)
                    ·
                     rw [if_pos c127] at H
                     have c127b0 : decide (0 ≤ (rd t126 x22_2)) = true := decide_eq_true c127
                     clear c127
                     by_cases c128 : (rd t126 x22_2) < (x12_1.length : Int)
                     ·
                      rw [if_pos c128] at H
                      have c128b0 : decide ((rd t126 x22_2) < (x12_1.length : Int)) = true := decide_eq_true c128
                      clear c128
                      by_cases c129 : (rd x12_1 (rd t126 x22_2)) < x22_2
                      ·
                       rw [if_pos c129] at H
                       have c129b0 : decide ((rd x12_1 (rd t126 x22_2)) < x22_2) = true := decide_eq_true c129
                       clear c129
                       exact absurd ((Option.some.inj H).trans HRT.out) (by simp)
                      ·
                       rw [if_neg c129] at H
                       have c129b0 : decide ((rd x12_1 (rd t126 x22_2)) < x22_2) = false := decide_eq_false c129
                       clear c129
                       have H' := Aside0.mk H
                       clear H
                       have p197 : 0 ≤ (x22_2 : Int) := dT
                       have q197 : x22_2 < (t126.length : Int) := dT
                       obtain ⟨ad197, e197, hx197_0⟩ := Kd.at_int (Kd.R_reads' HO_10.out).2.2 x22_2 p197 q197
                       cases e197
                       replace p197 := eq_true p197
                       replace q197 := eq_true q197
                       have p198 : 0 ≤ (x22_2 : Int) := dT
                       have q198 : x22_2 < (t126.length : Int) := dT
                       obtain ⟨ad198, e198, hx198_0⟩ := Kd.at_int (Kd.R_reads' HO_10.out).2.2 x22_2 p198 q198
                       obtain rfl : ad197 = ad198 := (by injection e198)
                       replace p198 := eq_true p198
                       replace q198 := eq_true q198
                       have p199 : 0 ≤ (x22_2 : Int) := dT
                       have q199 : x22_2 < (t126.length : Int) := dT
                       obtain ⟨ad199, e199, hx199_0⟩ := Kd.at_int (Kd.R_reads' HO_10.out).2.2 x22_2 p199 q199
                       obtain rfl : ad197 = ad199 := (by injection e199)
                       replace p199 := eq_true p199
                       replace q199 := eq_true q199
                       have hnb130 := NB196_101.out
                       have hnc130 := NB101_196.out
                       have hnb131 := NB196_102.out
                       have hnc131 := NB102_196.out
                       have hnb132 := NB196_114.out
                       have hnc132 := NB114_196.out
                       obtain ⟨hcz133_0, hcz133_1, hcz133_2, hcz133_3, hcz133_4, hcz133_5, hfz133_0, hfz133_1, hfz133_2, hfz133_3, hfz133_4, hfz133_5⟩ := cf6 BK196
                       have p215 : 0 ≤ (x22_2 : Int) := dT
                       have q215 : x22_2 < (t126.length : Int) := dT
                       obtain ⟨ad215, e215, hx215_0⟩ := Kd.at_int (Kd.R_reads' HO_10.out).2.2 x22_2 p215 q215
                       obtain rfl : ad197 = ad215 := (by injection e215)
                       replace p215 := eq_true p215
                       replace q215 := eq_true q215
                       have p216 : 0 ≤ ((rd t126 x22_2) : Int) := dT
                       have q216 : (rd t126 x22_2) < (x12_1.length : Int) := dT
                       obtain ⟨ad216, e216, hx216_0⟩ := Kd.at_int (Kd.R_reads' HO_12.out).2.2 (rd t126 x22_2) p216 q216
                       cases e216
                       replace p216 := eq_true p216
                       replace q216 := eq_true q216
                       have p217 : 0 ≤ (x22_2 : Int) := dT
                       have q217 : x22_2 < (t126.length : Int) := dT
                       obtain ⟨ad217, e217, hx217_0⟩ := Kd.at_int (Kd.R_reads' HO_10.out).2.2 x22_2 p217 q217
                       obtain rfl : ad197 = ad217 := (by injection e217)
                       replace p217 := eq_true p217
                       replace q217 := eq_true q217
                       have CYc125 : ((rd t126 x22_2) < 6) = True := eq_true (by rw [CXc125.out]; decide)
                       have CPc125 : (0 ≤ (rd t126 x22_2)) = True := eq_true (by rw [CXc125.out]; decide)
                       have CZc125 : ∀ (b_ : Nat) (p_ : _), (⟨b_, (rd t126 x22_2).toNat, p_⟩ : Addr) = ⟨b_, 5, p_⟩ := fun _ _ => by rw [CXc125.out]; rfl
                       go_wp2
                       go_roundg k2
                       case measure => have := HK1.out; have := HK2.out; omega
                       case rel => exact ⟨(wrap64 (x22_2 + 1)), (x197000_2), (x197001_2), (x197002_2), (x197003_2), (x197004_2), (true), (by first | rfl | (simp; done) | (simp [*]; done)), H', ⟨by have := HK1.out; have := HK2.out; omega⟩, ⟨by (with_reducible repeat (first | apply Kd.R_alloc | apply Kd.R_drewN | apply Kd.R_drew)); exact Kd.R_mono (Kd.R_far (p := ⟨gb196, 5, none⟩) (Kd.R_types HO_8.out BK196.out (by decide)) (fun _ hk => hk.2) (.bool true)) (fun _ hk => trivial)⟩, ⟨by (with_reducible repeat (first | apply Kd.R_alloc | apply Kd.R_drewN | apply Kd.R_drew)); exact Kd.R_mono (Kd.R_far (p := ⟨gb196, 5, none⟩) (Kd.R_types HO_10.out BK196.out (by decide)) (fun _ hk => hk.2) (.bool true)) (fun _ hk => ⟨hk.1.1, hk.1.2⟩)⟩, ⟨by (with_reducible repeat (first | apply Kd.R_alloc | apply Kd.R_drewN | apply Kd.R_drew)); exact Kd.R_mono (Kd.R_far (p := ⟨gb196, 5, none⟩) (Kd.R_types HO_12.out BK196.out (by decide)) (fun _ hk => hk.2) (.bool true)) (fun _ hk => ⟨hk.1.1, hk.1.2⟩)⟩, ⟨by (with_reducible repeat (first | apply Kd.R_alloc | apply Kd.R_drewN | apply Kd.R_drew)); exact Kd.R_mono (Kd.R_far (p := ⟨gb196, 5, none⟩) (Kd.R_types HO_115000.out BK196.out (by decide)) (fun _ hk => hk.2) (.bool true)) (fun _ hk => trivial)⟩, ⟨by (with_reducible repeat (first | apply Kd.R_alloc | apply Kd.R_drewN | apply Kd.R_drew)); exact Kd.R_mono (Kd.R_far (p := ⟨gb196, 5, none⟩) (Kd.R_types HO_115001.out BK196.out (by decide)) (fun _ hk => hk.2) (.bool true)) (fun _ hk => ⟨hk.1.1, hk.1.2⟩)⟩, ⟨by refine pB ?_; refine blk_far ?_ NB101_196.out _; (with_reducible repeat (first | refine blk_drewN ?_ _ | refine blk_drew ?_ | refine blk_alloc ?_ _)); exact BK101.out⟩, ⟨by refine pB ?_; refine blk_far ?_ NB102_196.out _; (with_reducible repeat (first | refine blk_drewN ?_ _ | refine blk_drew ?_ | refine blk_alloc ?_ _)); exact BK102.out⟩, ⟨by refine pB ?_; refine blk_far ?_ NB114_196.out _; (with_reducible repeat (first | refine blk_drewN ?_ _ | refine blk_drew ?_ | refine blk_alloc ?_ _)); exact BK114.out⟩, ⟨by refine pB ?_; refine blk_put (cs := #[.bool x197000_2, .bool x197001_2, .bool x197002_2, .bool x197003_2, .bool x197004_2, .bool false]) ?_ 5 _ rfl; (with_reducible repeat (first | refine blk_drewN ?_ _ | refine blk_drew ?_ | refine blk_alloc ?_ _)); exact BK196.out⟩, ⟨pE HB⟩⟩
                     ·
                      rw [if_neg c128] at H
                      exact absurd H (by simp)
                    ·
                     rw [if_neg c127] at H
                     exact absurd H (by simp)
                  ·
                   rw [if_neg c125] at H
                   exact absurd H (by simp)
          ·
           rw [if_neg c77] at H
           exact absurd H (by simp)
         ·
          rw [if_neg c76] at H
          have c76b0 : decide (x22_2 < (t126.length : Int)) = false := decide_eq_false c76
          clear c76
          obtain ⟨t218, A134, H⟩ := bi H
          obtain ⟨ji135, hji135⟩ : ∃ j_ : Int, (mn (t111.length : Int) (wrap64 ((Int.tmod (wrap64 (a2_0)) (wrap64 ((t111.length : Int) + 1))) + 1))) = j_ := ⟨_, rfl⟩
          replace H : (walkmilllaw05_TenterOrder.l4 k2 t111 (Int.tmod (wrap64 (a2_0)) (wrap64 ((t111.length : Int) + 1))) t218 ji135 0 a2_0 a2_1 t103 t106 t109 t110) = some r := by first | (rw [hji135] at H; exact H) | (simp only [hji135] at H ⊢; exact H)
          (try rw [hji135] at A134)
          have hji135_ : (if (wrap64 ((Int.tmod (wrap64 (a2_0)) (wrap64 ((t111.length : Int) + 1))) + 1)) < (t111.length : Int) then (wrap64 ((Int.tmod (wrap64 (a2_0)) (wrap64 ((t111.length : Int) + 1))) + 1)) else (t111.length : Int)) = ji135 := hji135
          have H' := Aside0.mk H
          clear H
          go_wp2_with (first | ((with_reducible refine gc 24 rfl ?_); refine gL 184 Tryd.func24 #[.slice Ao26 t111.length co26] ?_; (with_reducible refine (walkmilllaw05_spans.calls _ _ t111 t218 _ ?side1 ?side2 A134.out).mono ?_); (case side1 => exact pC (Kd.R_reads' HO_8.out).2.2); (case side2 => exact (Kd.R_reads' HO_8.out).2.1); rintro e w136 ⟨v219, rfl, ho0, hb⟩; refine ⟨_, rfl, ?_⟩; replace HO_10 := rb HO_10 hb; replace HO_12 := rb HO_12 hb; replace HO_115000 := rb HO_115000 hb; replace HO_115001 := rb HO_115001 hb; have HO220 := Aside0.mk (Kd.R_lower (Kd.R_new' ho0 (Kd.R_lt (pR HO_8.out))) (below_size (pE HB))); replace HO_8 := re HO_8 ho0 hb; replace BK101 := bb BK101 hb; replace BK102 := bb BK102 hb; replace BK114 := bb BK114 hb; replace BK196 := bb BK196 hb; replace HB := bs HB hb; clear hb ho0))
          go_loopg [25] k2 (fun kq v25 w' => ∃ (x23_3 : List (S40)) (x25_3 : Int), v25 = .int .i64 x25_3 ∧ Aside0 (walkmilllaw05_TenterOrder.l4 kq t111 (Int.tmod (wrap64 (a2_0)) (wrap64 ((t111.length : Int) + 1))) x23_3 ji135 x25_3 a2_0 a2_1 t103 t106 t109 t110 = some r) ∧ Aside0 (kq ≤ k2) ∧ Aside0 (Kd.R k40 40 w' w.heap.size (fun k_ => some k_ ≠ (v219 : Value).ownBlock) (.slice Ao26 t111.length co26) t111) ∧ Aside0 (Kd.R k40 40 w' w.heap.size (fun k_ => some k_ ≠ ((.slice Ao26 t111.length co26) : Value).ownBlock) v219 x23_3) ∧ Aside0 (Kd.R k42 42 w' w.heap.size (fun _ => True) (.slice Ao17 t103.length co17) t103) ∧ Aside0 (Kd.R (Kd.int .i64) 3 w' w.heap.size (fun _ => True) (.slice Ao19 t106.length co19) t106) ∧ Aside0 (w'.heap[gb101]? = some (.cells #[(.slice A0_0 l0_0.length c0_0), .int .u8 a0_1, .int .u8 a0_2, .int .u8 a0_3, .int .u8 a0_4, .int .u8 a0_5, (.slice A0_6 l0_6.length c0_6)] 26 (0, 0))) ∧ Aside0 (w'.heap[gb102]? = some (.cells #[.int .u8 a2_0, .int .u8 a2_1] 65 (0, 0))) ∧ Aside0 (w'.heap[gb114]? = some (.cells #[(.slice Ao17 t103.length co17), (.slice Ao19 t106.length co19), .int .i64 t109, .int .i64 t110] 32 (0, 0))) ∧ Aside0 (w'.heap[gb196]? = some (.cells #[.bool x197000_2, .bool x197001_2, .bool x197002_2, .bool x197003_2, .bool x197004_2, .bool x197005_2] 59 (0, 0))) ∧ Aside0 (Below w.heap.size w w'))
          case atStart => exact ⟨(t218), (0), (by first | rfl | (simp; done) | (simp [*]; done)), H', ⟨Nat.le_refl _⟩, ⟨by (with_reducible repeat (first | apply Kd.R_alloc | apply Kd.R_drewN | apply Kd.R_drew)); exact Kd.R_mono HO_8.out (fun _ hk => hk.2)⟩, ⟨by (with_reducible repeat (first | apply Kd.R_alloc | apply Kd.R_drewN | apply Kd.R_drew)); exact Kd.R_mono HO220.out (fun _ hk => hk.2)⟩, ⟨by (with_reducible repeat (first | apply Kd.R_alloc | apply Kd.R_drewN | apply Kd.R_drew)); exact HO_115000.out⟩, ⟨by (with_reducible repeat (first | apply Kd.R_alloc | apply Kd.R_drewN | apply Kd.R_drew)); exact Kd.R_mono HO_115001.out (fun _ hk => trivial)⟩, ⟨by (with_reducible repeat (first | refine blk_drewN ?_ _ | refine blk_drew ?_ | refine blk_alloc ?_ _)); exact BK101.out⟩, ⟨by (with_reducible repeat (first | refine blk_drewN ?_ _ | refine blk_drew ?_ | refine blk_alloc ?_ _)); exact BK102.out⟩, ⟨by (with_reducible repeat (first | refine blk_drewN ?_ _ | refine blk_drew ?_ | refine blk_alloc ?_ _)); exact BK114.out⟩, ⟨by (with_reducible repeat (first | refine blk_drewN ?_ _ | refine blk_drew ?_ | refine blk_alloc ?_ _)); exact BK196.out⟩, ⟨pE HB⟩⟩
          case round =>
           clear H'
           try clear c1
           try clear p1
           try clear q1
           try clear hx1
           try clear c2
           try clear p2
           try clear q2
           try clear hx2
           try clear p6
           try clear c7
           try clear c8
           try clear c9
           try clear c10
           try clear c11
           try clear c12
           try clear c13
           try clear p19
           try clear q19
           try clear hx19
           try clear p20
           try clear q20
           try clear hx20
           try clear p21
           try clear q21
           try clear hx21
           try clear c24
           try clear p64
           try clear c76
           try clear c76b0
           try clear c77
           try clear c80
           try clear c80b0
           try clear c80b1
           try clear c82
           try clear c83
           try clear c84
           try clear c84b0
           try clear c85
           try clear c86
           try clear c87
           try clear c89
           try clear c89b0
           try clear c89b1
           try clear c90
           try clear c91
           try clear c91b0
           try clear c92
           try clear c92b0
           try clear c93
           try clear c93b0
           try clear c94
           try clear c95
           try clear c96
           try clear c98
           try clear c98b0
           try clear c98b1
           try clear c99
           try clear c100
           try clear c100b0
           try clear c101
           try clear c101b0
           try clear c102
           try clear c102b0
           try clear c103
           try clear c104
           try clear c105
           try clear c107
           try clear c107b0
           try clear c107b1
           try clear c108
           try clear c109
           try clear c109b0
           try clear c110
           try clear c110b0
           try clear c111
           try clear c111b0
           try clear c112
           try clear c113
           try clear c114
           try clear c116
           try clear c116b0
           try clear c116b1
           try clear c117
           try clear c118
           try clear c118b0
           try clear c119
           try clear c119b0
           try clear c120
           try clear c120b0
           try clear c121
           try clear c122
           try clear c123
           try clear c125
           try clear c125b0
           try clear c125b1
           try clear c126
           try clear c127
           try clear c127b0
           try clear c128
           try clear c128b0
           try clear c129
           try clear c129b0
           try clear c130
           try clear c131
           try clear c132
           try clear hcz106_0
           try clear hcz106_1
           try clear hcz106_2
           try clear hcz106_3
           try clear hcz106_4
           try clear hcz106_5
           try clear hcz115_0
           try clear hcz115_1
           try clear hcz115_2
           try clear hcz115_3
           try clear hcz115_4
           try clear hcz115_5
           try clear hcz124_0
           try clear hcz124_1
           try clear hcz124_2
           try clear hcz124_3
           try clear hcz124_4
           try clear hcz124_5
           try clear hcz133_0
           try clear hcz133_1
           try clear hcz133_2
           try clear hcz133_3
           try clear hcz133_4
           try clear hcz133_5
           try clear hcz88_0
           try clear hcz88_1
           try clear hcz88_2
           try clear hcz88_3
           try clear hcz88_4
           try clear hcz88_5
           try clear hcz97_0
           try clear hcz97_1
           try clear hcz97_2
           try clear hcz97_3
           try clear hcz97_4
           try clear hcz97_5
           try clear hfz106_0
           try clear hfz106_1
           try clear hfz106_2
           try clear hfz106_3
           try clear hfz106_4
           try clear hfz106_5
           try clear hfz115_0
           try clear hfz115_1
           try clear hfz115_2
           try clear hfz115_3
           try clear hfz115_4
           try clear hfz115_5
           try clear hfz124_0
           try clear hfz124_1
           try clear hfz124_2
           try clear hfz124_3
           try clear hfz124_4
           try clear hfz124_5
           try clear hfz133_0
           try clear hfz133_1
           try clear hfz133_2
           try clear hfz133_3
           try clear hfz133_4
           try clear hfz133_5
           try clear hfz88_0
           try clear hfz88_1
           try clear hfz88_2
           try clear hfz88_3
           try clear hfz88_4
           try clear hfz88_5
           try clear hfz97_0
           try clear hfz97_1
           try clear hfz97_2
           try clear hfz97_3
           try clear hfz97_4
           try clear hfz97_5
           try clear hx197_0
           try clear hx198_0
           try clear hx199_0
           try clear hx200_0
           try clear hx201_0
           try clear hx202_0
           try clear hx203_0
           try clear hx204_0
           try clear hx205_0
           try clear hx206_0
           try clear hx207_0
           try clear hx208_0
           try clear hx209_0
           try clear hx210_0
           try clear hx211_0
           try clear hx212_0
           try clear hx213_0
           try clear hx214_0
           try clear hx215_0
           try clear hx216_0
           try clear hx217_0
           try clear p197
           try clear p198
           try clear p199
           try clear p200
           try clear p201
           try clear p202
           try clear p203
           try clear p204
           try clear p205
           try clear p206
           try clear p207
           try clear p208
           try clear p209
           try clear p210
           try clear p211
           try clear p212
           try clear p213
           try clear p214
           try clear p215
           try clear p216
           try clear p217
           try clear q197
           try clear q198
           try clear q199
           try clear q200
           try clear q201
           try clear q202
           try clear q203
           try clear q204
           try clear q205
           try clear q206
           try clear q207
           try clear q208
           try clear q209
           try clear q210
           try clear q211
           try clear q212
           try clear q213
           try clear q214
           try clear q215
           try clear q216
           try clear q217
           obtain ⟨x23_3, x25_3, rfl, HA, HK3, HO_8, HO_23, HO_115000, HO_115001, BK101, BK102, BK114, BK196, HB⟩ := hrel
           cases gk with
           | zero => exact absurd HA.out (by simp [walkmilllaw05_TenterOrder.l4])
           | succ k3 =>
            have H := HA.out
            clear HA
            simp only [walkmilllaw05_TenterOrder.l4] at H
            by_cases c137 : x25_3 < (x23_3.length : Int)
            ·
             rw [if_pos c137] at H
             have c137b0 : decide (x25_3 < (x23_3.length : Int)) = true := decide_eq_true c137
             clear c137
             by_cases c138 : 0 ≤ x25_3
             ·
              rw [if_pos c138] at H
              have c138b0 : decide (0 ≤ x25_3) = true := decide_eq_true c138
              clear c138
              obtain ⟨ji139, hji139⟩ : ∃ j_ : Int, (mn 100 (wrap64 (((rd_T40 x23_3 x25_3).f0) + (Int.tmod (wrap64 (a2_1)) 9)))) = j_ := ⟨_, rfl⟩
              replace H : ((walkmilllaw05_span.f (ji139) (mn 100 (wrap64 (((rd_T40 x23_3 x25_3).f1) + (Int.tmod (wrap64 (a2_1)) 9))))).bind fun bt223 => (walkmilllaw05_TenterOrder.l4 k3 t111 (Int.tmod (wrap64 (a2_0)) (wrap64 ((t111.length : Int) + 1))) (x23_3.set (x25_3 : Int).toNat (⟨bt223.1, bt223.2⟩ : S40)) ji135 (wrap64 (x25_3 + 1)) a2_0 a2_1 t103 t106 t109 t110)) = some r := by first | (rw [hji139] at H; exact H) | (simp only [hji139] at H ⊢; exact H)
              have hji139_ : (if (wrap64 (((rd_T40 x23_3 x25_3).f0) + (Int.tmod (wrap64 (a2_1)) 9))) < 100 then (wrap64 (((rd_T40 x23_3 x25_3).f0) + (Int.tmod (wrap64 (a2_1)) 9))) else 100) = ji139 := hji139
              obtain ⟨ji140, hji140⟩ : ∃ j_ : Int, (mn 100 (wrap64 (((rd_T40 x23_3 x25_3).f1) + (Int.tmod (wrap64 (a2_1)) 9)))) = j_ := ⟨_, rfl⟩
              replace H : ((walkmilllaw05_span.f (ji139) (ji140)).bind fun bt223 => (walkmilllaw05_TenterOrder.l4 k3 t111 (Int.tmod (wrap64 (a2_0)) (wrap64 ((t111.length : Int) + 1))) (x23_3.set (x25_3 : Int).toNat (⟨bt223.1, bt223.2⟩ : S40)) ji135 (wrap64 (x25_3 + 1)) a2_0 a2_1 t103 t106 t109 t110)) = some r := by first | (rw [hji140] at H; exact H) | (simp only [hji140] at H ⊢; exact H)
              have hji140_ : (if (wrap64 (((rd_T40 x23_3 x25_3).f1) + (Int.tmod (wrap64 (a2_1)) 9))) < 100 then (wrap64 (((rd_T40 x23_3 x25_3).f1) + (Int.tmod (wrap64 (a2_1)) 9))) else 100) = ji140 := hji140
              obtain ⟨⟨t223, t224⟩, A141, H⟩ := bi H
              obtain ⟨y225, hy225⟩ : ∃ y_ : List (S40), y_ = (x23_3.set (x25_3 : Int).toNat (⟨t223, t224⟩ : S40)) := ⟨_, rfl⟩
              replace H : (walkmilllaw05_TenterOrder.l4 k3 t111 (Int.tmod (wrap64 (a2_0)) (wrap64 ((t111.length : Int) + 1))) y225 ji135 (wrap64 (x25_3 + 1)) a2_0 a2_1 t103 t106 t109 t110) = some r := yy hy225 H
              have Ny225 := Aside0.mk hy225
              clear hy225
              have H' := Aside0.mk H
              clear H
              obtain ⟨Ao143, co143, eo143⟩ := Kd.R_slice HO_23.out
              subst eo143
              try go_wp2
              replace HO_8 := Aside0.mk (Kd.R_drew HO_8.out)
              replace HO_23 := Aside0.mk (Kd.R_drew HO_23.out)
              replace HO_115000 := Aside0.mk (Kd.R_drew HO_115000.out)
              replace HO_115001 := Aside0.mk (Kd.R_drew HO_115001.out)
              replace BK101 := Aside0.mk (blk_drew BK101.out)
              replace BK102 := Aside0.mk (blk_drew BK102.out)
              replace BK114 := Aside0.mk (blk_drew BK114.out)
              replace BK196 := Aside0.mk (blk_drew BK196.out)
              replace HB := Aside0.mk (below_drew1 HB.out)
              have p221 : 0 ≤ (x25_3 : Int) := dT
              have q221 : x25_3 < (x23_3.length : Int) := dT
              obtain ⟨ad221, e221, hx221_0, hx221_1⟩ := at_T40 (Kd.R_reads' HO_23.out).2.2 x25_3 p221 q221
              cases e221
              replace p221 := eq_true p221
              replace q221 := eq_true q221
              have p222 : 0 ≤ (x25_3 : Int) := dT
              have q222 : x25_3 < (x23_3.length : Int) := dT
              obtain ⟨ad222, e222, hx222_0, hx222_1⟩ := at_T40 (Kd.R_reads' HO_23.out).2.2 x25_3 p222 q222
              obtain rfl : ad221 = ad222 := (by injection e222)
              replace p222 := eq_true p222
              replace q222 := eq_true q222
              refine start_ (n := 27) (S := fun w' => w'.cell? ⟨gb102, 0, none⟩ = some (.int .u8 a2_0) ∧ w'.cell? ⟨gb102, 1, none⟩ = some (.int .u8 a2_1) ∧ w'.cell? (ad221.add ((x25_3).toNat * 2)) = some (.int .i64 ((rd_T40 x23_3 x25_3).f0)) ∧ w'.cell? ⟨(ad221.add ((x25_3).toNat * 2)).block, (ad221.add ((x25_3).toNat * 2)).off + 1, none⟩ = some (.int .i64 ((rd_T40 x23_3 x25_3).f1)) ∧ w'.cell? (ad221.add ((x25_3).toNat * 2)) = some (.int .i64 ((rd_T40 x23_3 x25_3).f0)) ∧ w'.cell? ⟨(ad221.add ((x25_3).toNat * 2)).block, (ad221.add ((x25_3).toNat * 2)).off + 1, none⟩ = some (.int .i64 ((rd_T40 x23_3 x25_3).f1))) (ds := [26]) #[false, false, false, false, false, false, false, false, false, false, false, false, false, false, false, false, false, false, false, false, false, false, false, false, false, false, false] (by kernel_rfl) rfl rfl ⟨(blk_cell BK102.out 0).trans rfl, (blk_cell BK102.out 1).trans rfl, hx221_0, hx221_1, hx222_0, hx222_1⟩ (fun hHeld => ?_); refine with_tabW walkmilllaw05_TenterOrder.tab40 walkmilllaw05_TenterOrder.bits40 (fun HT_ HW_ => ?_)
              generalize wr.drew = w144 at HO_8 HO_23 HO_115000 HO_115001 BK101 BK102 BK114 BK196 HB hx221_0 hx221_1 hx222_0 hx222_1 hHeld ⊢
              refine pu 0 196 ?_
              refine pu 1 197 ?_
              refine pu 2 198 ?_
              refine pu 3 199 ?_
              refine pu 4 200 ?_
              refine pu 5 201 ?_
              refine pu 7 203 ?_
              refine pu 13 209 ?_
              refine pu 14 210 ?_
              refine pu 15 211 ?_
              refine pu 16 212 ?_
              refine pu 18 214 ?_
              refine tk 6 202 hHeld ?_
              refine tk 8 204 hHeld ?_
              refine pu 9 205 ?_
              refine pu 10 206 ?_
              refine pu 11 207 ?_
              refine pu 12 208 ?_
              refine tk 17 213 hHeld ?_
              refine tk 19 215 hHeld ?_
              refine pu 20 216 ?_
              refine pu 21 217 ?_
              refine pu 22 218 ?_
              refine pu 23 219 ?_
              refine on 24 (fun K hK => ?_)
              refine goes_ Tryd.func13 (by kernel_rfl) rfl #[.int .i64 ji139, .int .i64 ji140] (by rfl) rfl rfl (by (try simp only [List.map_toArray, List.map_cons, List.map_nil]); first | done | (simp only [hji139, hji140]; rfl) | rfl | (simp only [List.length_drop, List.length_take]; rfl)) ?_
              with_reducible refine (walkmilllaw05_span.calls ji139 ji140 t223 t224 _ A141.out).mono ?_
              rintro e w145 ⟨rfl, hb⟩
              have HS2_ := (hb.cell (World.block_lt_of_cell? _ _ (hHeld.2.2.1))).trans (hHeld.2.2.1)
              have HS3_ := (hb.cell (World.block_lt_of_cell? _ _ (hHeld.2.2.2.1))).trans (hHeld.2.2.2.1)
              have HS4_ := (hb.cell (World.block_lt_of_cell? _ _ (hHeld.2.2.2.2.1))).trans (hHeld.2.2.2.2.1)
              have HS5_ := (hb.cell (World.block_lt_of_cell? _ _ (hHeld.2.2.2.2.2))).trans (hHeld.2.2.2.2.2)
              refine ⟨_, rfl, ?_⟩
              replace HO_8 := rb HO_8 hb
              replace HO_23 := rb HO_23 hb
              replace HO_115000 := rb HO_115000 hb
              replace HO_115001 := rb HO_115001 hb
              replace BK101 := bb BK101 hb
              replace BK102 := bb BK102 hb
              replace BK114 := bb BK114 hb
              replace BK196 := bb BK196 hb
              replace HB := bs HB hb
              (try clear hb)
              (try clear hb2)
              (try clear hk)
              (try clear hi)
              have p142 : 0 ≤ (x25_3 : Int) := dT
              have q142 : (x25_3 : Int) < ((x23_3.length : Int) : Int) := dT
              obtain ⟨go142, co142, eo142, gb142, gl142, cl142, HG142⟩ := Kd.R_form HO_23.out (by omega)
              (first | cases eo142 | (injection eo142 with ea_ en_ ec_; (first | subst ea_ | (injection ea_ with ea_; subst ea_)); subst ec_; clear en_))
              have GB142 := Aside0.mk gb142
              have GG142 := Aside0.mk HG142
              clear gb142 gl142 HG142
              (first | simp only [add_plain] at hx221_0 | skip)
              (first | simp only [add_plain] at hx221_1 | skip)
              (first | simp only [add_plain] at hx222_0 | skip)
              (first | simp only [add_plain] at hx222_1 | skip)
              obtain ⟨ce142, hcl142, hM142, hcc142, hfr142⟩ := Kd.R_elem HO_23.out z40 (x25_3 : Int) p142 q142
              obtain rfl := k40_openM hM142
              have hx142_0 : World.cell? _ ⟨go142, (x25_3 : Int).toNat * 2, none⟩ = some (.int .i64 ((rd_T40 x23_3 x25_3).f0)) := hcc142 0 _ rfl
              have hx142_1 : World.cell? _ ⟨go142, (x25_3 : Int).toNat * 2 + 1, none⟩ = some (.int .i64 ((rd_T40 x23_3 x25_3).f1)) := hcc142 1 _ rfl
              have hf142_0 : World.frozen? _ ⟨go142, (x25_3 : Int).toNat * 2, none⟩ = false := hfr142 0
              have hf142_1 : World.frozen? _ ⟨go142, (x25_3 : Int).toNat * 2 + 1, none⟩ = false := hfr142 1
              clear hcl142 hcc142 hfr142 hM142
              replace p142 := eq_true p142
              replace q142 := eq_true q142
              obtain ⟨ce146, hcl146, hM146, hcc146, hfr146⟩ := Kd.R_elem HO_23.out z40 (x25_3 : Int) (dT) (by have h_ : (x25_3 : Int) < ((x23_3.length : Int) : Int) := dT; first | exact h_ | (have e_ := (Kd.R_reads' HO_23.out).1; omega) | simpa using h_)
              obtain rfl := k40_openM hM146
              have HP146 := (Kd.R_seg HO_23.out (x25_3 : Int) (dT) (by have h_ : (x25_3 : Int) < ((x23_3.length : Int) : Int) := dT; first | exact h_ | (have e_ := (Kd.R_reads' HO_23.out).1; omega) | simpa using h_) (seg := [.int .i64 t223, .int .i64 t224]) (j := 0) hcl146 hcc146 (show 2 ≤ 2 from by decide) (x' := (⟨t223, t224⟩ : S40)) (k40_mkM _ _ _ (⟨t223, t224⟩ : S40) ) (fun _ hk => hk)).1
              rw [← Ny225.out] at HP146
              have HQ146 := Aside0.mk HP146
              clear hcl146 hcc146 hfr146 hM146 HP146
              refine hK.out _ _ ⟨(blk_cell BK102.out 0).trans rfl, (blk_cell BK102.out 1).trans rfl, HS2_, HS3_, HS4_, HS5_⟩ (fun hHeld => ?_)
              clear hK K
              refine norm_ (a' := ?_) ?_ ?_
              rotate_left
              ·
               show Act.put _ (some 220) _ = _
               simp only [Act.put, List.setIfInBounds_toArray, List.set_cons_zero, List.set_cons_succ, i64_w, i32_w]
               rfl
              refine pu 25 221 ?_
              refine last_ (i := 26) (N := none) #[true, true, true, true, true, true, true, true, true, true, true, true, true, true, true, true, true, true, true, true, true, true, true, true, true, true, true] rfl rfl (one_of HT_.out (by kernel_rfl)) (by decide) (fun K hK => ?_)
              refine skip_ (w1 := ?_) (by rfl) rfl ?_ ?_
              rotate_left
              ·
               go_simp
               rfl
              refine hK.out _ _ ?_
              clear hK K
              refine done_ (done_of HT_.out (by kernel_rfl)) ?_
              try go_wp2
              go_roundg k3
              case measure => have := HK1.out; have := HK2.out; have := HK3.out; omega
              case rel => exact ⟨(y225), (wrap64 (x25_3 + 1)), (by first | rfl | (simp; done) | (simp [*]; done)), H', ⟨by have := HK1.out; have := HK2.out; have := HK3.out; omega⟩, ⟨by (with_reducible repeat (first | apply Kd.R_alloc | apply Kd.R_drewN | apply Kd.R_drew)); exact Kd.R_mono (Kd.R_far (p := ⟨go142, (x25_3 : Int).toNat * 2 + 1, none⟩) (Kd.R_far (p := ⟨go142, (x25_3 : Int).toNat * 2, none⟩) (Kd.R_mono HO_8.out (fun k_ hk => (⟨hk, fun e_ => hk (by rw [e_]; rfl)⟩ : _ ∧ k_ ≠ go142))) (fun _ hk => hk.2) (.int .i64 t223)) (fun _ hk => hk.2) (.int .i64 t224)) (fun _ hk => hk.1)⟩, ⟨by (with_reducible repeat (first | apply Kd.R_alloc | apply Kd.R_drewN | apply Kd.R_drew)); exact HQ146.out⟩, ⟨by (with_reducible repeat (first | apply Kd.R_alloc | apply Kd.R_drewN | apply Kd.R_drew)); exact Kd.R_mono (Kd.R_far (p := ⟨go142, (x25_3 : Int).toNat * 2 + 1, none⟩) (Kd.R_far (p := ⟨go142, (x25_3 : Int).toNat * 2, none⟩) (Kd.R_types HO_115000.out GG142.out (by decide)) (fun _ hk => hk.2) (.int .i64 t223)) (fun _ hk => hk.2) (.int .i64 t224)) (fun _ hk => trivial)⟩, ⟨by (with_reducible repeat (first | apply Kd.R_alloc | apply Kd.R_drewN | apply Kd.R_drew)); exact Kd.R_mono (Kd.R_far (p := ⟨go142, (x25_3 : Int).toNat * 2 + 1, none⟩) (Kd.R_far (p := ⟨go142, (x25_3 : Int).toNat * 2, none⟩) (Kd.R_types HO_115001.out GG142.out (by decide)) (fun _ hk => hk.2) (.int .i64 t223)) (fun _ hk => hk.2) (.int .i64 t224)) (fun _ hk => trivial)⟩, ⟨by refine pB ?_; refine blk_far ?_ (by have h_ := Kd.R_ne HO_23.out BK101.out (by decide); intro e_; exact h_ (by rw [e_]; rfl)) _; refine pB ?_; refine blk_far ?_ (by have h_ := Kd.R_ne HO_23.out BK101.out (by decide); intro e_; exact h_ (by rw [e_]; rfl)) _; (with_reducible repeat (first | refine blk_drewN ?_ _ | refine blk_drew ?_ | refine blk_alloc ?_ _)); exact BK101.out⟩, ⟨by refine pB ?_; refine blk_far ?_ (by have h_ := Kd.R_ne HO_23.out BK102.out (by decide); intro e_; exact h_ (by rw [e_]; rfl)) _; refine pB ?_; refine blk_far ?_ (by have h_ := Kd.R_ne HO_23.out BK102.out (by decide); intro e_; exact h_ (by rw [e_]; rfl)) _; (with_reducible repeat (first | refine blk_drewN ?_ _ | refine blk_drew ?_ | refine blk_alloc ?_ _)); exact BK102.out⟩, ⟨by refine pB ?_; refine blk_far ?_ (by have h_ := Kd.R_ne HO_23.out BK114.out (by decide); intro e_; exact h_ (by rw [e_]; rfl)) _; refine pB ?_; refine blk_far ?_ (by have h_ := Kd.R_ne HO_23.out BK114.out (by decide); intro e_; exact h_ (by rw [e_]; rfl)) _; (with_reducible repeat (first | refine blk_drewN ?_ _ | refine blk_drew ?_ | refine blk_alloc ?_ _)); exact BK114.out⟩, ⟨by refine pB ?_; refine blk_far ?_ (by have h_ := Kd.R_ne HO_23.out BK196.out (by decide); intro e_; exact h_ (by rw [e_]; rfl)) _; refine pB ?_; refine blk_far ?_ (by have h_ := Kd.R_ne HO_23.out BK196.out (by decide); intro e_; exact h_ (by rw [e_]; rfl)) _; (with_reducible repeat (first | refine blk_drewN ?_ _ | refine blk_drew ?_ | refine blk_alloc ?_ _)); exact BK196.out⟩, ⟨pE HB⟩⟩
             ·
              rw [if_neg c138] at H
              exact absurd H (by simp)
            ·
             rw [if_neg c137] at H
             have c137b0 : decide (x25_3 < (x23_3.length : Int)) = false := decide_eq_false c137
             clear c137
             obtain ⟨⟨t226, t229, t232, t233⟩, A147, H⟩ := bi H
             obtain ⟨⟨t234, t237⟩, A148, H⟩ := bi H
             obtain ⟨⟨t238, t241⟩, A149, H⟩ := bi H
             by_cases c150 : t237 = 0
             ·
              rw [if_pos c150] at H
              have c150b0 : (t237 == 0) = true := beq_iff_eq.mpr c150
              have c150b1 : (t237 != 0) = false := bne_eq_false_iff_eq.mpr c150
              clear c150
              by_cases c151 : t241 = 0
              ·
               rw [if_pos c151] at H
               have c151b0 : (t241 == 0) = true := beq_iff_eq.mpr c151
               have c151b1 : (t241 != 0) = false := bne_eq_false_iff_eq.mpr c151
               clear c151
               obtain ⟨t242, A152, H⟩ := bi H
               obtain rfl := Option.some.inj H
               obtain ⟨Ao153, co153, eo153⟩ := Kd.R_slice HO_23.out
               subst eo153
               have hnb154 := NB114_101.out
               have hnc154 := NB101_114.out
               have hnb155 := NB114_102.out
               have hnc155 := NB102_114.out
               have hnb156 := NB114_196.out
               have hnc156 := NB196_114.out
               obtain ⟨hcz157_0, hcz157_1, hcz157_2, hcz157_3, hfz157_0, hfz157_1, hfz157_2, hfz157_3⟩ := cf4 BK114
               go_wp2_with (first | ((with_reducible refine gc 9 rfl ?_); refine gL 224 Tryd.func9 #[.agg #[.slice Ao17 t103.length co17, .slice Ao19 t106.length co19, .int .i64 t109, .int .i64 t110]] ?_; (with_reducible refine (walkmilllaw05_own.calls _ _ t103 _ _ t106 t109 t110 t226 t229 t232 t233 _ ?side1 ?side2 ?side3 ?side4 A147.out).mono ?_); (case side1 => exact pC (Kd.R_reads' HO_115000.out).2.2); (case side2 => exact (Kd.R_reads' HO_115000.out).2.1); (case side3 => exact pC (Kd.R_reads' HO_115001.out).2.2); (case side4 => exact (Kd.R_reads' HO_115001.out).2.1); rintro e w158 ⟨v227, v230, rfl, ho0, ho1, hb⟩; refine ⟨_, rfl, ?_⟩; replace HO_8 := rb HO_8 hb; replace HO_23 := rb HO_23 hb; have HO228 := Aside0.mk (Kd.R_lower (Kd.R_new' ho0 (Kd.R_lt (pR HO_115000.out))) (below_size (pE HB))); replace HO_115000 := re HO_115000 ho0 hb; have HO231 := Aside0.mk (Kd.R_lower (Kd.R_new' ho1 (Kd.R_lt (pR HO_115001.out))) (below_size (pE HB))); replace HO_115001 := re HO_115001 ho1 hb; replace BK101 := bb BK101 hb; replace BK102 := bb BK102 hb; replace BK114 := bb BK114 hb; replace BK196 := bb BK196 hb; replace HB := bs HB hb; clear hb ho0 ho1; obtain ⟨Ao159, co159, eo159⟩ := Kd.R_slice HO228.out; subst eo159; obtain ⟨Ao160, co160, eo160⟩ := Kd.R_slice HO231.out; subst eo160) | ((with_reducible refine gc 23 rfl ?_); refine gL 227 Tryd.func23 #[.agg #[.slice Ao159 t226.length co159, .slice Ao160 t229.length co160, .int .i64 t232, .int .i64 t233], .slice Ao153 x23_3.length co153, .int .i64 (Int.tmod (wrap64 (a2_0)) (wrap64 ((t111.length : Int) + 1)))] ?_; (with_reducible refine (tenter_Order.calls k3 _ _ t226 _ _ t229 t232 t233 _ _ x23_3 (Int.tmod (wrap64 (a2_0)) (wrap64 ((t111.length : Int) + 1))) t234 t237 _ ?side1 ?side2 ?side3 ?side4 ?side5 ?side6 A148.out).mono ?_); (case side1 => exact pC (Kd.R_reads' HO228.out).2.2); (case side2 => exact (Kd.R_reads' HO228.out).2.1); (case side3 => exact pC (Kd.R_reads' HO231.out).2.2); (case side4 => exact (Kd.R_reads' HO231.out).2.1); (case side5 => exact pC (Kd.R_reads' HO_23.out).2.2); (case side6 => exact (Kd.R_reads' HO_23.out).2.1); rintro e w161 ⟨v235, rfl, ho0, hb⟩; refine ⟨_, rfl, ?_⟩; replace HO_8 := rb HO_8 hb; replace HO_23 := rb HO_23 hb; replace HO_115000 := rb HO_115000 hb; replace HO228 := rb HO228 hb; have HO236 := Aside0.mk (Kd.R_lower (Kd.R_new' (Kd.R_new' ho0 (Kd.R_lt (pR HO_115001.out))) (Kd.R_lt (pR HO231.out))) (below_size (pE HB))); replace HO_115001 := re HO_115001 ho0 hb; replace HO231 := re HO231 ho0 hb; replace BK101 := bb BK101 hb; replace BK102 := bb BK102 hb; replace BK114 := bb BK114 hb; replace BK196 := bb BK196 hb; replace HB := bs HB hb; clear hb ho0; obtain ⟨hcz162_0, hcz162_1, hcz162_2, hcz162_3, hfz162_0, hfz162_1, hfz162_2, hfz162_3⟩ := cf4 BK114) | ((with_reducible refine gc 23 rfl ?_); refine goesL_ (some 234) rfl rfl Tryd.func23 (by kernel_rfl) rfl #[.agg #[.slice Ao17 t103.length co17, .slice Ao19 t106.length co19, .int .i64 t109, .int .i64 t110], .slice Ao26 t111.length co26, .int .i64 ji135] rfl (by (try simp only [List.map_toArray, List.map_cons, List.map_nil]); first | done | (simp only [hji135]; rfl) | rfl | (simp only [List.length_drop, List.length_take]; rfl)) ?_; (with_reducible refine (tenter_Order.calls k3 _ _ t103 _ _ t106 t109 t110 _ _ t111 ji135 t238 t241 _ ?side1 ?side2 ?side3 ?side4 ?side5 ?side6 A149.out).mono ?_); (case side1 => exact pC (Kd.R_reads' HO_115000.out).2.2); (case side2 => exact (Kd.R_reads' HO_115000.out).2.1); (case side3 => exact pC (Kd.R_reads' HO_115001.out).2.2); (case side4 => exact (Kd.R_reads' HO_115001.out).2.1); (case side5 => exact pC (Kd.R_reads' HO_8.out).2.2); (case side6 => exact (Kd.R_reads' HO_8.out).2.1); rintro e w163 ⟨v239, rfl, ho0, hb⟩; refine ⟨_, rfl, ?_⟩; replace HO_8 := rb HO_8 hb; replace HO_23 := rb HO_23 hb; replace HO_115000 := rb HO_115000 hb; replace HO228 := rb HO228 hb; have HO240 := Aside0.mk (Kd.R_lower (Kd.R_new' (Kd.R_new' (Kd.R_new' ho0 (Kd.R_lt (pR HO_115001.out))) (Kd.R_lt (pR HO231.out))) (Kd.R_lt (pR HO236.out))) (below_size (pE HB))); replace HO_115001 := re HO_115001 ho0 hb; replace HO231 := re HO231 ho0 hb; replace HO236 := re HO236 ho0 hb; replace BK101 := bb BK101 hb; replace BK102 := bb BK102 hb; replace BK114 := bb BK114 hb; replace BK196 := bb BK196 hb; replace HB := bs HB hb; clear hb ho0) | (go_at_call 15; (with_reducible refine (walkmilllaw05_known.calls t242 _ A152.out (LaidT.below HLd.out (pE HB))).mono ?_); rintro e w164 ⟨rfl, hb⟩; replace HO_8 := rb HO_8 hb; replace HO_23 := rb HO_23 hb; replace HO_115000 := rb HO_115000 hb; replace HO_115001 := rb HO_115001 hb; replace HO228 := rb HO228 hb; replace HO231 := rb HO231 hb; replace HO236 := rb HO236 hb; replace HO240 := rb HO240 hb; replace BK101 := bb BK101 hb; replace BK102 := bb BK102 hb; replace BK114 := bb BK114 hb; replace BK196 := bb BK196 hb; replace HB := bs HB hb; (try clear hb); (try clear hb2); (try clear hk); (try clear hi)))
               go_ret
               exact ⟨by first | rfl | (simp [errW_none, errW_some] <;> rfl) | (simp only [← hji135]; first | rfl | (simp [errW_none, errW_some] <;> rfl)) | (simp [*, errW_none, errW_some] <;> rfl), pE HB⟩
              ·
               rw [if_neg c151] at H
               have c151b0 : (t241 == 0) = false := beq_eq_false_iff_ne.mpr c151
               have c151b1 : (t241 != 0) = true := bne_iff_ne.mpr c151
               exact absurd ((Option.some.inj H).trans HRT.out) (by simp)
             ·
              rw [if_neg c150] at H
              have c150b0 : (t237 == 0) = false := beq_eq_false_iff_ne.mpr c150
              have c150b1 : (t237 != 0) = true := bne_iff_ne.mpr c150
              exact absurd ((Option.some.inj H).trans HRT.out) (by simp)
      ·
       rw [if_neg c65] at H
       have c65b0 : ((t126.length : Int) == (x12_1.length : Int)) = false := beq_eq_false_iff_ne.mpr c65
       have c65b1 : ((t126.length : Int) != (x12_1.length : Int)) = true := bne_iff_ne.mpr c65
       have c65b2 : (t126.length == x12_1.length) = false := by first | simpa using c65 | (simp at c65 ⊢; omega)
       exact absurd ((Option.some.inj H).trans HRT.out) (by simp)
     ·
      rw [if_neg c64] at H
      have c64b0 : (t129 == 0) = false := beq_eq_false_iff_ne.mpr c64
      have c64b1 : (t129 != 0) = true := bne_iff_ne.mpr c64
      have HC165 := Aside0.mk H
      clear H
      have hnb166 := NB114_101.out
      have hnc166 := NB101_114.out
      have hnb167 := NB114_102.out
      have hnc167 := NB102_114.out
      obtain ⟨hcz168_0, hcz168_1, hcz168_2, hcz168_3, hfz168_0, hfz168_1, hfz168_2, hfz168_3⟩ := cf4 BK114
      go_upto_region 13 with (fail)
      go_cut [82] (fun v82 wc => ∃ (kq : Nat) (x82_164 : Bool), v82 = .bool x82_164 ∧ Aside0 (walkmilllaw05_TenterOrder.j1 kq l1 x12_1 x82_164 = some r) ∧ Aside0 (kq ≤ k1) ∧ Aside0 (Kd.R (Kd.int .i64) 3 wc w.heap.size (fun k_ => some k_ ≠ ((.slice Ao19 t106.length co19) : Value).ownBlock) u12 x12_1) ∧ Aside0 (Kd.R k42 42 wc w.heap.size (fun _ => True) (.slice Ao17 t103.length co17) t103) ∧ Aside0 (Kd.R (Kd.int .i64) 3 wc w.heap.size (fun k_ => some k_ ≠ (u12 : Value).ownBlock) (.slice Ao19 t106.length co19) t106) ∧ Aside0 (wc.heap[gb101]? = some (.cells #[(.slice A0_0 l0_0.length c0_0), .int .u8 a0_1, .int .u8 a0_2, .int .u8 a0_3, .int .u8 a0_4, .int .u8 a0_5, (.slice A0_6 l0_6.length c0_6)] 26 (0, 0))) ∧ Aside0 (wc.heap[gb102]? = some (.cells #[.int .u8 a2_0, .int .u8 a2_1] 65 (0, 0))) ∧ Aside0 (wc.heap[gb114]? = some (.cells #[(.slice Ao17 t103.length co17), (.slice Ao19 t106.length co19), .int .i64 t109, .int .i64 t110] 32 (0, 0))) ∧ Aside0 (Below w.heap.size w wc))
      case first =>
       have H := HC165.out
       clear HC165
       by_cases c169 : t129 = 9
       ·
        rw [if_pos c169] at H
        have c169b0 : (t129 == 9) = true := beq_iff_eq.mpr c169
        have c169b1 : (t129 != 9) = false := bne_eq_false_iff_eq.mpr c169
        clear c169
        (first | rw [c169b0] | (simp only [i64_w, i32_w]; rw [c169b0]) | skip)
        have H' := Aside0.mk H
        clear H
        obtain ⟨Ao170, co170, eo170⟩ := Kd.R_slice HO_10.out
        subst eo170
        go_wp2
        go_meet
        case rel => exact ⟨_, (((t126.length : Int) != 0)), (by first | rfl | (simp; done) | (simp [*]; done)), H', ⟨by have := HK1.out; first | omega | exact Nat.le_refl _⟩, ⟨by (with_reducible repeat (first | apply Kd.R_alloc | apply Kd.R_drewN | apply Kd.R_drew)); exact Kd.R_mono HO_12.out (fun _ hk => hk.2)⟩, ⟨by (with_reducible repeat (first | apply Kd.R_alloc | apply Kd.R_drewN | apply Kd.R_drew)); exact HO_115000.out⟩, ⟨by (with_reducible repeat (first | apply Kd.R_alloc | apply Kd.R_drewN | apply Kd.R_drew)); exact Kd.R_mono HO_115001.out (fun _ hk => hk.2)⟩, ⟨by (with_reducible repeat (first | refine blk_drewN ?_ _ | refine blk_drew ?_ | refine blk_alloc ?_ _)); exact BK101.out⟩, ⟨by (with_reducible repeat (first | refine blk_drewN ?_ _ | refine blk_drew ?_ | refine blk_alloc ?_ _)); exact BK102.out⟩, ⟨by (with_reducible repeat (first | refine blk_drewN ?_ _ | refine blk_drew ?_ | refine blk_alloc ?_ _)); exact BK114.out⟩, ⟨pE HB⟩⟩
       ·
        rw [if_neg c169] at H
        have c169b0 : (t129 == 9) = false := beq_eq_false_iff_ne.mpr c169
        have c169b1 : (t129 != 9) = true := bne_iff_ne.mpr c169
        (first | rw [c169b0] | (simp only [i64_w, i32_w]; rw [c169b0]) | skip)
        exact (walkmilllaw05_TenterOrder.dead_j1 _ _ _ _ H HRT.out).elim
      case rest =>
       clear HC165
       try clear c1
       try clear p1
       try clear q1
       try clear hx1
       try clear c2
       try clear p2
       try clear q2
       try clear hx2
       try clear c6
       try clear p6
       try clear c9
       try clear c13
       try clear c14
       try clear p14
       try clear q14
       try clear hx14
       try clear hf14
       try clear c15
       try clear c16
       try clear p19
       try clear q19
       try clear hx19
       try clear p20
       try clear q20
       try clear hx20
       try clear p21
       try clear q21
       try clear hx21
       try clear p22
       try clear q22
       try clear hx22
       try clear c23
       try clear c64
       try clear c64b0
       try clear c64b1
       try clear p64
       try clear c65
       try clear c65b0
       try clear c65b1
       try clear c65b2
       try clear c137
       try clear c137b0
       try clear c138
       try clear c138b0
       try clear c142
       try clear p142
       try clear q142
       try clear hx142
       try clear hf142
       try clear c146
       try clear c150
       try clear c150b0
       try clear c150b1
       try clear c151
       try clear c151b0
       try clear c151b1
       try clear c154
       try clear c155
       try clear c156
       try clear c166
       try clear c167
       try clear c169
       try clear c169b0
       try clear c169b1
       try clear hcz115_2
       try clear hcz115_3
       try clear hcz115_4
       try clear hcz115_5
       try clear hcz124_0
       try clear hcz124_1
       try clear hcz124_2
       try clear hcz124_3
       try clear hcz124_4
       try clear hcz124_5
       try clear hcz133_0
       try clear hcz133_1
       try clear hcz133_2
       try clear hcz133_3
       try clear hcz133_4
       try clear hcz133_5
       try clear hcz157_0
       try clear hcz157_1
       try clear hcz157_2
       try clear hcz157_3
       try clear hcz162_0
       try clear hcz162_1
       try clear hcz162_2
       try clear hcz162_3
       try clear hcz168_0
       try clear hcz168_1
       try clear hcz168_2
       try clear hcz168_3
       try clear hcz88_0
       try clear hcz88_1
       try clear hcz88_2
       try clear hcz88_3
       try clear hcz88_4
       try clear hcz88_5
       try clear hcz97_0
       try clear hcz97_1
       try clear hcz97_2
       try clear hcz97_3
       try clear hcz97_4
       try clear hcz97_5
       try clear hfz106_0
       try clear hfz106_1
       try clear hfz106_2
       try clear hfz106_3
       try clear hfz106_4
       try clear hfz106_5
       try clear hfz115_0
       try clear hfz115_1
       try clear hfz115_2
       try clear hfz115_3
       try clear hfz115_4
       try clear hfz115_5
       try clear hfz124_0
       try clear hfz124_1
       try clear hfz124_2
       try clear hfz124_3
       try clear hfz124_4
       try clear hfz124_5
       try clear hfz133_0
       try clear hfz133_1
       try clear hfz133_2
       try clear hfz133_3
       try clear hfz133_4
       try clear hfz133_5
       try clear hfz157_0
       try clear hfz157_1
       try clear hfz157_2
       try clear hfz157_3
       try clear hfz162_0
       try clear hfz162_1
       try clear hfz162_2
       try clear hfz162_3
       try clear hfz168_0
       try clear hfz168_1
       try clear hfz168_2
       try clear hfz168_3
       try clear hfz88_0
       try clear hfz88_1
       try clear hfz88_2
       try clear hfz88_3
       try clear hfz88_4
       try clear hfz88_5
       try clear hfz97_0
       try clear hfz97_1
       try clear hfz97_2
       try clear hfz97_3
       try clear hfz97_4
       try clear hfz97_5
       try clear hx142_0
       try clear hx142_1
       try clear hx197_0
       try clear hx198_0
       try clear hx199_0
       try clear hx200_0
       try clear hx201_0
       try clear hx202_0
       try clear hx203_0
       try clear hx204_0
       try clear hx205_0
       try clear hx206_0
       try clear hx207_0
       try clear hx208_0
       try clear hx209_0
       try clear hx210_0
       try clear hx211_0
       try clear hx212_0
       try clear hx213_0
       try clear hx214_0
       try clear hx215_0
       try clear hx216_0
       try clear hx217_0
       try clear hx221_0
       try clear hx221_1
       try clear hx222_0
       try clear hx222_1
       try clear p142
       try clear p197
       try clear p198
       try clear p199
       try clear p200
       try clear p201
       try clear p202
       try clear p203
       try clear p204
       try clear p205
       try clear p206
       try clear p207
       try clear p208
       try clear p209
       try clear p210
       try clear p211
       try clear p212
       try clear p213
       try clear p214
       try clear p215
       try clear p216
       try clear p217
       try clear p221
       try clear p222
       try clear q142
       try clear q197
       try clear q198
       try clear q199
       try clear q200
       try clear q201
       try clear q202
       try clear q203
       try clear q204
       try clear q205
       try clear q206
       try clear q207
       try clear q208
       try clear q209
       try clear q210
       try clear q211
       try clear q212
       try clear q213
       try clear q214
       try clear q215
       try clear q216
       try clear q217
       try clear q221
       try clear q222
       obtain ⟨kq, x82_164, rfl, HA, HJ164, HO_12, HO_115000, HO_115001, BK101, BK102, BK114, HB⟩ := hcut
       cases kq with
       | zero => exact absurd HA.out (by simp [walkmilllaw05_TenterOrder.j1])
       | succ kj164 =>
        have H := HA.out
        clear HA
        simp only [walkmilllaw05_TenterOrder.j1] at H
        by_cases c171 : x82_164 = true
        ·
         subst c171
         rw [if_pos rfl] at H
         exact absurd ((Option.some.inj H).trans HRT.out) (by simp)
        ·
         replace c171 := Bool.eq_false_iff.mpr c171
         subst c171
         rw [if_neg (show ¬ (false = true) by decide)] at H
         obtain ⟨y152, hy152⟩ : ∃ y_ : List Int, y_ = (([] : List Int)) := ⟨_, rfl⟩
         replace H : (walkmilllaw05_TenterOrder.l1 kj164 l1 x12_1 y152 true 0) = some r := yy hy152 H
         have Ny152 := Aside0.mk hy152
         clear hy152
         have H' := Aside0.mk H
         clear H
         go_wp2_with (first | ((with_reducible refine gate_dst (N := 83) rfl ?_); (try (refine gate_guard (by rfl) ?_; dsimp only)); refine Kd.R_lit (Kd.int .i64) _ 3 ?hg (N := 83) ?hd (xs := ([] : List Int)) (inner := []) (ok := fun _ => True) (okp := fun _ => True) ?hr ?hp (fun _ hk => hk) trivial (Below.refl _ _) (Nat.le_refl _) (by simp) ?_; (case hd => rfl); (case hg => rfl); (case hr => first | (go_simp; done) | (go_simp; rfl)); (case hp => exact (Reps.none _ _)); intro v153 w172 ho173 hb hg_ hnew_; clear hg_ hnew_; (first | rw [← Ny152.out] at ho173 | (simp only [Int.reduceToNat] at ho173; rw [← Ny152.out] at ho173)); replace HO_115000 := rb HO_115000 hb; have HO154 := Aside0.mk (Kd.R_lower (Kd.R_new' (Kd.R_new' ho173 (Kd.R_lt (pR HO_12.out))) (Kd.R_lt (pR HO_115001.out))) (below_size (pE HB))); replace HO_12 := re HO_12 ho173 hb; replace HO_115001 := re HO_115001 ho173 hb; replace BK101 := bb BK101 hb; replace BK102 := bb BK102 hb; replace BK114 := bb BK114 hb; replace HB := bs HB hb; clear hb ho173))
         go_loopg [16, 18] kj164 (fun kq v16 v18 w' => ∃ (x16_3 : List Int) (x18_3 : Int), v18 = .int .i64 x18_3 ∧ Aside0 (walkmilllaw05_TenterOrder.l1 kq l1 x12_1 x16_3 true x18_3 = some r) ∧ Aside0 (kq ≤ kj164) ∧ Aside0 (Kd.R (Kd.int .i64) 3 w' w.heap.size (fun k_ => some k_ ≠ (v16 : Value).ownBlock ∧ some k_ ≠ ((.slice Ao19 t106.length co19) : Value).ownBlock) u12 x12_1) ∧ Aside0 (Kd.R (Kd.int .i64) 3 w' w.heap.size (fun k_ => some k_ ≠ (u12 : Value).ownBlock ∧ some k_ ≠ ((.slice Ao19 t106.length co19) : Value).ownBlock) v16 x16_3) ∧ Aside0 (Kd.R k42 42 w' w.heap.size (fun _ => True) (.slice Ao17 t103.length co17) t103) ∧ Aside0 (Kd.R (Kd.int .i64) 3 w' w.heap.size (fun k_ => some k_ ≠ (u12 : Value).ownBlock ∧ some k_ ≠ (v16 : Value).ownBlock) (.slice Ao19 t106.length co19) t106) ∧ Aside0 (w'.heap[gb101]? = some (.cells #[(.slice A0_0 l0_0.length c0_0), .int .u8 a0_1, .int .u8 a0_2, .int .u8 a0_3, .int .u8 a0_4, .int .u8 a0_5, (.slice A0_6 l0_6.length c0_6)] 26 (0, 0))) ∧ Aside0 (w'.heap[gb102]? = some (.cells #[.int .u8 a2_0, .int .u8 a2_1] 65 (0, 0))) ∧ Aside0 (w'.heap[gb114]? = some (.cells #[(.slice Ao17 t103.length co17), (.slice Ao19 t106.length co19), .int .i64 t109, .int .i64 t110] 32 (0, 0))) ∧ Aside0 (Below w.heap.size w w'))
         case atStart => exact ⟨(y152), (0), (by first | rfl | (simp; done) | (simp [*]; done)), H', ⟨Nat.le_refl _⟩, ⟨by (with_reducible repeat (first | apply Kd.R_alloc | apply Kd.R_drewN | apply Kd.R_drew)); exact Kd.R_mono HO_12.out (fun _ hk => ⟨hk.2, hk.1⟩)⟩, ⟨by (with_reducible repeat (first | apply Kd.R_alloc | apply Kd.R_drewN | apply Kd.R_drew)); exact Kd.R_mono HO154.out (fun _ hk => ⟨hk.1.2, hk.2⟩)⟩, ⟨by (with_reducible repeat (first | apply Kd.R_alloc | apply Kd.R_drewN | apply Kd.R_drew)); exact HO_115000.out⟩, ⟨by (with_reducible repeat (first | apply Kd.R_alloc | apply Kd.R_drewN | apply Kd.R_drew)); exact HO_115001.out⟩, ⟨by (with_reducible repeat (first | refine blk_drewN ?_ _ | refine blk_drew ?_ | refine blk_alloc ?_ _)); exact BK101.out⟩, ⟨by (with_reducible repeat (first | refine blk_drewN ?_ _ | refine blk_drew ?_ | refine blk_alloc ?_ _)); exact BK102.out⟩, ⟨by (with_reducible repeat (first | refine blk_drewN ?_ _ | refine blk_drew ?_ | refine blk_alloc ?_ _)); exact BK114.out⟩, ⟨pE HB⟩⟩
         case round =>
          clear H'
          try clear c1
          try clear p1
          try clear q1
          try clear hx1
          try clear c2
          try clear p2
          try clear q2
          try clear hx2
          try clear c6
          try clear p6
          try clear c9
          try clear c13
          try clear c14
          try clear p14
          try clear q14
          try clear hx14
          try clear hf14
          try clear c15
          try clear c16
          try clear c17
          try clear p19
          try clear q19
          try clear hx19
          try clear p20
          try clear q20
          try clear hx20
          try clear p21
          try clear q21
          try clear hx21
          try clear p22
          try clear q22
          try clear hx22
          try clear c23
          try clear c64
          try clear c64b0
          try clear c64b1
          try clear p64
          try clear c65
          try clear c65b0
          try clear c65b1
          try clear c65b2
          try clear c137
          try clear c137b0
          try clear c138
          try clear c138b0
          try clear c142
          try clear p142
          try clear q142
          try clear hx142
          try clear hf142
          try clear c146
          try clear c150
          try clear c150b0
          try clear c150b1
          try clear c151
          try clear c151b0
          try clear c151b1
          try clear c154
          try clear c155
          try clear c156
          try clear c166
          try clear c167
          try clear c169
          try clear c169b0
          try clear c169b1
          try clear c171
          try clear hcz115_2
          try clear hcz115_3
          try clear hcz115_4
          try clear hcz115_5
          try clear hcz124_0
          try clear hcz124_1
          try clear hcz124_2
          try clear hcz124_3
          try clear hcz124_4
          try clear hcz124_5
          try clear hcz133_0
          try clear hcz133_1
          try clear hcz133_2
          try clear hcz133_3
          try clear hcz133_4
          try clear hcz133_5
          try clear hcz157_0
          try clear hcz157_1
          try clear hcz157_2
          try clear hcz157_3
          try clear hcz162_0
          try clear hcz162_1
          try clear hcz162_2
          try clear hcz162_3
          try clear hcz168_0
          try clear hcz168_1
          try clear hcz168_2
          try clear hcz168_3
          try clear hcz88_0
          try clear hcz88_1
          try clear hcz88_2
          try clear hcz88_3
          try clear hcz88_4
          try clear hcz88_5
          try clear hcz97_0
          try clear hcz97_1
          try clear hcz97_2
          try clear hcz97_3
          try clear hcz97_4
          try clear hcz97_5
          try clear hfz106_0
          try clear hfz106_1
          try clear hfz106_2
          try clear hfz106_3
          try clear hfz106_4
          try clear hfz106_5
          try clear hfz115_0
          try clear hfz115_1
          try clear hfz115_2
          try clear hfz115_3
          try clear hfz115_4
          try clear hfz115_5
          try clear hfz124_0
          try clear hfz124_1
          try clear hfz124_2
          try clear hfz124_3
          try clear hfz124_4
          try clear hfz124_5
          try clear hfz133_0
          try clear hfz133_1
          try clear hfz133_2
          try clear hfz133_3
          try clear hfz133_4
          try clear hfz133_5
          try clear hfz157_0
          try clear hfz157_1
          try clear hfz157_2
          try clear hfz157_3
          try clear hfz162_0
          try clear hfz162_1
          try clear hfz162_2
          try clear hfz162_3
          try clear hfz168_0
          try clear hfz168_1
          try clear hfz168_2
          try clear hfz168_3
          try clear hfz88_0
          try clear hfz88_1
          try clear hfz88_2
          try clear hfz88_3
          try clear hfz88_4
          try clear hfz88_5
          try clear hfz97_0
          try clear hfz97_1
          try clear hfz97_2
          try clear hfz97_3
          try clear hfz97_4
          try clear hfz97_5
          try clear hx142_0
          try clear hx142_1
          try clear hx197_0
          try clear hx198_0
          try clear hx199_0
          try clear hx200_0
          try clear hx201_0
          try clear hx202_0
          try clear hx203_0
          try clear hx204_0
          try clear hx205_0
          try clear hx206_0
          try clear hx207_0
          try clear hx208_0
          try clear hx209_0
          try clear hx210_0
          try clear hx211_0
          try clear hx212_0
          try clear hx213_0
          try clear hx214_0
          try clear hx215_0
          try clear hx216_0
          try clear hx217_0
          try clear hx221_0
          try clear hx221_1
          try clear hx222_0
          try clear hx222_1
          try clear p1
          try clear p14
          try clear p142
          try clear p19
          try clear p197
          try clear p198
          try clear p199
          try clear p2
          try clear p20
          try clear p200
          try clear p201
          try clear p202
          try clear p203
          try clear p204
          try clear p205
          try clear p206
          try clear p207
          try clear p208
          try clear p209
          try clear p21
          try clear p210
          try clear p211
          try clear p212
          try clear p213
          try clear p214
          try clear p215
          try clear p216
          try clear p217
          try clear p22
          try clear p221
          try clear p222
          try clear p6
          try clear p64
          try clear q1
          try clear q14
          try clear q142
          try clear q19
          try clear q197
          try clear q198
          try clear q199
          try clear q2
          try clear q20
          try clear q200
          try clear q201
          try clear q202
          try clear q203
          try clear q204
          try clear q205
          try clear q206
          try clear q207
          try clear q208
          try clear q209
          try clear q21
          try clear q210
          try clear q211
          try clear q212
          try clear q213
          try clear q214
          try clear q215
          try clear q216
          try clear q217
          try clear q22
          try clear q221
          try clear q222
          obtain ⟨x16_3, x18_3, rfl, HA, HK3, HO_12, HO_16, HO_115000, HO_115001, BK101, BK102, BK114, HB⟩ := hrel
          cases gk with
          | zero => exact absurd HA.out (by simp [walkmilllaw05_TenterOrder.l1])
          | succ k3 =>
           have H := HA.out
           clear HA
           simp only [walkmilllaw05_TenterOrder.l1] at H
           by_cases c174 : x18_3 < (x12_1.length : Int)
           ·
            rw [if_pos c174] at H
            have c174b0 : decide (x18_3 < (x12_1.length : Int)) = true := decide_eq_true c174
            clear c174
            by_cases c175 : x16_3.length < 17592186044416
            ·
             rw [if_pos c175] at H
             have LMc175 := Aside0.mk c175
             clear c175
             obtain ⟨y155, hy155⟩ : ∃ y_ : List Int, y_ = (x16_3 ++ [x18_3]) := ⟨_, rfl⟩
             replace H : (walkmilllaw05_TenterOrder.l1 k3 l1 x12_1 y155 true (wrap64 (x18_3 + 1))) = some r := yy hy155 H
             have Ny155 := Aside0.mk hy155
             clear hy155
             have H' := Aside0.mk H
             clear H
             obtain ⟨Ao176, co176, eo176⟩ := Kd.R_slice HO_12.out
             subst eo176
             go_wp2_with (first | ((with_reducible refine gate_builtin (b := .append) (xs := #[.tmp 90, .tmp 92]) rfl ?_); (try (refine gate_guard (by rfl) ?_; dsimp only)); at_builtin; refine Kd.R_append (Kd.int .i64) (w0 := w) w.heap.size rfl (.tmp 90) (.tmp 92) 30 3 (.int .i64 0) 8 rfl Tryd.underlying30 info3 rfl (by decide) (by omega) u16 x16_3 x18_3 [.int .i64 x18_3] (fun k_ => some k_ ≠ (.slice Ao176 x12_1.length co176 : Value).ownBlock ∧ some k_ ≠ (.slice Ao19 t106.length co19 : Value).ownBlock) (fun _ => False) rfl rfl ?aP (fun _ hk => hk.elim) ?aF ?aO ?aB ?aS ?aL ?_; (case aP => exact rfl); (case aB => exact (pE HB)); (case aF => exact (fun k_ hk => ⟨Kd.fresh' (Kd.R_lt (pR HO_12.out)) k_ hk, Kd.fresh' (Kd.R_lt (pR HO_115001.out)) k_ hk⟩)); (case aO => exact (pR HO_16.out)); (case aS => exact (below_size (pE HB))); (case aL => have := LMc175.out; omega); intro v156 w177 ho hb hg hat; rw [← Ny155.out] at ho; replace HO_12 := Aside0.mk (Kd.R_after (ok := (fun k_ => some k_ ≠ (.slice Ao19 t106.length co19 : Value).ownBlock)) (by refine pR ?_; exact Kd.R_mono HO_12.out (fun _ hk => ⟨hk.2, hk.1⟩)) hg hat); replace HO_115000 := Aside0.mk (Kd.R_over' (pR HO_115000.out) (Kd.R_typed (pR HO_16.out)) (by decide) hg); replace HO_115001 := Aside0.mk (Kd.R_after (ok := (fun k_ => some k_ ≠ (.slice Ao176 x12_1.length co176 : Value).ownBlock)) (pR HO_115001.out) hg hat); replace BK101 := Aside0.mk (blk_grown (g := gb101) (o := .cells #[.slice A0_0 l0_0.length c0_0, .int .u8 a0_1, .int .u8 a0_2, .int .u8 a0_3, .int .u8 a0_4, .int .u8 a0_5, .slice A0_6 l0_6.length c0_6] 26 (0, 0)) (pB BK101.out) hg (Kd.R_ne HO_16.out BK101.out (by decide))); replace BK102 := Aside0.mk (blk_grown (g := gb102) (o := .cells #[.int .u8 a2_0, .int .u8 a2_1] 65 (0, 0)) (pB BK102.out) hg (Kd.R_ne HO_16.out BK102.out (by decide))); replace BK114 := Aside0.mk (blk_grown (g := gb114) (o := .cells #[.slice Ao17 t103.length co17, .slice Ao19 t106.length co19, .int .i64 t109, .int .i64 t110] 32 (0, 0)) (pB BK114.out) hg (Kd.R_ne HO_16.out BK114.out (by decide))); replace HB := Aside0.mk (hb); have HO157 := Aside0.mk (ho); clear HO_16; clear ho hb hg hat))
             go_roundg k3
             case measure => have := HK1.out; have := HJ164.out; have := HK3.out; omega
             case rel => exact ⟨(y155), (wrap64 (x18_3 + 1)), (by first | rfl | (simp; done) | (simp [*]; done)), H', ⟨by have := HK1.out; have := HJ164.out; have := HK3.out; omega⟩, ⟨by (with_reducible repeat (first | apply Kd.R_alloc | apply Kd.R_drewN | apply Kd.R_drew)); exact Kd.R_mono HO_12.out (fun _ hk => ⟨hk.2, hk.1⟩)⟩, ⟨by (with_reducible repeat (first | apply Kd.R_alloc | apply Kd.R_drewN | apply Kd.R_drew)); exact HO157.out⟩, ⟨by (with_reducible repeat (first | apply Kd.R_alloc | apply Kd.R_drewN | apply Kd.R_drew)); exact HO_115000.out⟩, ⟨by (with_reducible repeat (first | apply Kd.R_alloc | apply Kd.R_drewN | apply Kd.R_drew)); exact HO_115001.out⟩, ⟨by (with_reducible repeat (first | refine blk_drewN ?_ _ | refine blk_drew ?_ | refine blk_alloc ?_ _)); exact BK101.out⟩, ⟨by (with_reducible repeat (first | refine blk_drewN ?_ _ | refine blk_drew ?_ | refine blk_alloc ?_ _)); exact BK102.out⟩, ⟨by (with_reducible repeat (first | refine blk_drewN ?_ _ | refine blk_drew ?_ | refine blk_alloc ?_ _)); exact BK114.out⟩, ⟨pE HB⟩⟩
            ·
             rw [if_neg c175] at H
             exact absurd H (by simp)
           ·
            rw [if_neg c174] at H
            have c174b0 : decide (x18_3 < (x12_1.length : Int)) = false := decide_eq_false c174
            clear c174
            have H' := Aside0.mk H
            clear H
            obtain ⟨Ao178, co178, eo178⟩ := Kd.R_slice HO_12.out
            subst eo178
            go_wp2
            go_loopg [16, 17, 19] k3 (fun kq v16 v17 v19 w' => ∃ (x16_4 : List Int) (x17_4 : Bool) (x19_4 : Int), v17 = .bool x17_4 ∧ v19 = .int .i64 x19_4 ∧ Aside0 (walkmilllaw05_TenterOrder.l2 kq l1 x12_1 x16_4 x17_4 x19_4 = some r) ∧ Aside0 (kq ≤ k3) ∧ Aside0 (Kd.R (Kd.int .i64) 3 w' w.heap.size (fun k_ => some k_ ≠ (v16 : Value).ownBlock ∧ some k_ ≠ ((.slice Ao19 t106.length co19) : Value).ownBlock) (.slice Ao178 x12_1.length co178) x12_1) ∧ Aside0 (Kd.R (Kd.int .i64) 3 w' w.heap.size (fun k_ => some k_ ≠ ((.slice Ao178 x12_1.length co178) : Value).ownBlock ∧ some k_ ≠ ((.slice Ao19 t106.length co19) : Value).ownBlock) v16 x16_4) ∧ Aside0 (Kd.R k42 42 w' w.heap.size (fun _ => True) (.slice Ao17 t103.length co17) t103) ∧ Aside0 (Kd.R (Kd.int .i64) 3 w' w.heap.size (fun k_ => some k_ ≠ ((.slice Ao178 x12_1.length co178) : Value).ownBlock ∧ some k_ ≠ (v16 : Value).ownBlock) (.slice Ao19 t106.length co19) t106) ∧ Aside0 (w'.heap[gb101]? = some (.cells #[(.slice A0_0 l0_0.length c0_0), .int .u8 a0_1, .int .u8 a0_2, .int .u8 a0_3, .int .u8 a0_4, .int .u8 a0_5, (.slice A0_6 l0_6.length c0_6)] 26 (0, 0))) ∧ Aside0 (w'.heap[gb102]? = some (.cells #[.int .u8 a2_0, .int .u8 a2_1] 65 (0, 0))) ∧ Aside0 (w'.heap[gb114]? = some (.cells #[(.slice Ao17 t103.length co17), (.slice Ao19 t106.length co19), .int .i64 t109, .int .i64 t110] 32 (0, 0))) ∧ Aside0 (Below w.heap.size w w'))
            case atStart => exact ⟨(x16_3), (true), (0), (by first | rfl | (simp; done) | (simp [*]; done)), (by first | rfl | (simp; done) | (simp [*]; done)), H', ⟨Nat.le_refl _⟩, ⟨by (with_reducible repeat (first | apply Kd.R_alloc | apply Kd.R_drewN | apply Kd.R_drew)); exact HO_12.out⟩, ⟨by (with_reducible repeat (first | apply Kd.R_alloc | apply Kd.R_drewN | apply Kd.R_drew)); exact HO_16.out⟩, ⟨by (with_reducible repeat (first | apply Kd.R_alloc | apply Kd.R_drewN | apply Kd.R_drew)); exact HO_115000.out⟩, ⟨by (with_reducible repeat (first | apply Kd.R_alloc | apply Kd.R_drewN | apply Kd.R_drew)); exact HO_115001.out⟩, ⟨by (with_reducible repeat (first | refine blk_drewN ?_ _ | refine blk_drew ?_ | refine blk_alloc ?_ _)); exact BK101.out⟩, ⟨by (with_reducible repeat (first | refine blk_drewN ?_ _ | refine blk_drew ?_ | refine blk_alloc ?_ _)); exact BK102.out⟩, ⟨by (with_reducible repeat (first | refine blk_drewN ?_ _ | refine blk_drew ?_ | refine blk_alloc ?_ _)); exact BK114.out⟩, ⟨pE HB⟩⟩
            case round =>
             clear H'
             try clear c1
             try clear p1
             try clear q1
             try clear hx1
             try clear c2
             try clear p2
             try clear q2
             try clear hx2
             try clear c6
             try clear p6
             try clear c9
             try clear c13
             try clear c14
             try clear p14
             try clear q14
             try clear hx14
             try clear hf14
             try clear c15
             try clear c16
             try clear c17
             try clear p19
             try clear q19
             try clear hx19
             try clear p20
             try clear q20
             try clear hx20
             try clear p21
             try clear q21
             try clear hx21
             try clear p22
             try clear q22
             try clear hx22
             try clear c23
             try clear c64
             try clear c64b0
             try clear c64b1
             try clear p64
             try clear c65
             try clear c65b0
             try clear c65b1
             try clear c65b2
             try clear c137
             try clear c137b0
             try clear c138
             try clear c138b0
             try clear c142
             try clear p142
             try clear q142
             try clear hx142
             try clear hf142
             try clear c146
             try clear c150
             try clear c150b0
             try clear c150b1
             try clear c151
             try clear c151b0
             try clear c151b1
             try clear c154
             try clear c155
             try clear c156
             try clear c166
             try clear c167
             try clear c169
             try clear c169b0
             try clear c169b1
             try clear c171
             try clear c174
             try clear c174b0
             try clear c175
             try clear hcz115_2
             try clear hcz115_3
             try clear hcz115_4
             try clear hcz115_5
             try clear hcz124_0
             try clear hcz124_1
             try clear hcz124_2
             try clear hcz124_3
             try clear hcz124_4
             try clear hcz124_5
             try clear hcz133_0
             try clear hcz133_1
             try clear hcz133_2
             try clear hcz133_3
             try clear hcz133_4
             try clear hcz133_5
             try clear hcz157_0
             try clear hcz157_1
             try clear hcz157_2
             try clear hcz157_3
             try clear hcz162_0
             try clear hcz162_1
             try clear hcz162_2
             try clear hcz162_3
             try clear hcz168_0
             try clear hcz168_1
             try clear hcz168_2
             try clear hcz168_3
             try clear hcz88_0
             try clear hcz88_1
             try clear hcz88_2
             try clear hcz88_3
             try clear hcz88_4
             try clear hcz88_5
             try clear hcz97_0
             try clear hcz97_1
             try clear hcz97_2
             try clear hcz97_3
             try clear hcz97_4
             try clear hcz97_5
             try clear hfz106_0
             try clear hfz106_1
             try clear hfz106_2
             try clear hfz106_3
             try clear hfz106_4
             try clear hfz106_5
             try clear hfz115_0
             try clear hfz115_1
             try clear hfz115_2
             try clear hfz115_3
             try clear hfz115_4
             try clear hfz115_5
             try clear hfz124_0
             try clear hfz124_1
             try clear hfz124_2
             try clear hfz124_3
             try clear hfz124_4
             try clear hfz124_5
             try clear hfz133_0
             try clear hfz133_1
             try clear hfz133_2
             try clear hfz133_3
             try clear hfz133_4
             try clear hfz133_5
             try clear hfz157_0
             try clear hfz157_1
             try clear hfz157_2
             try clear hfz157_3
             try clear hfz162_0
             try clear hfz162_1
             try clear hfz162_2
             try clear hfz162_3
             try clear hfz168_0
             try clear hfz168_1
             try clear hfz168_2
             try clear hfz168_3
             try clear hfz88_0
             try clear hfz88_1
             try clear hfz88_2
             try clear hfz88_3
             try clear hfz88_4
             try clear hfz88_5
             try clear hfz97_0
             try clear hfz97_1
             try clear hfz97_2
             try clear hfz97_3
             try clear hfz97_4
             try clear hfz97_5
             try clear hx142_0
             try clear hx142_1
             try clear hx197_0
             try clear hx198_0
             try clear hx199_0
             try clear hx200_0
             try clear hx201_0
             try clear hx202_0
             try clear hx203_0
             try clear hx204_0
             try clear hx205_0
             try clear hx206_0
             try clear hx207_0
             try clear hx208_0
             try clear hx209_0
             try clear hx210_0
             try clear hx211_0
             try clear hx212_0
             try clear hx213_0
             try clear hx214_0
             try clear hx215_0
             try clear hx216_0
             try clear hx217_0
             try clear hx221_0
             try clear hx221_1
             try clear hx222_0
             try clear hx222_1
             try clear p1
             try clear p14
             try clear p142
             try clear p19
             try clear p197
             try clear p198
             try clear p199
             try clear p2
             try clear p20
             try clear p200
             try clear p201
             try clear p202
             try clear p203
             try clear p204
             try clear p205
             try clear p206
             try clear p207
             try clear p208
             try clear p209
             try clear p21
             try clear p210
             try clear p211
             try clear p212
             try clear p213
             try clear p214
             try clear p215
             try clear p216
             try clear p217
             try clear p22
             try clear p221
             try clear p222
             try clear p6
             try clear p64
             try clear q1
             try clear q14
             try clear q142
             try clear q19
             try clear q197
             try clear q198
             try clear q199
             try clear q2
             try clear q20
             try clear q200
             try clear q201
             try clear q202
             try clear q203
             try clear q204
             try clear q205
             try clear q206
             try clear q207
             try clear q208
             try clear q209
             try clear q21
             try clear q210
             try clear q211
             try clear q212
             try clear q213
             try clear q214
             try clear q215
             try clear q216
             try clear q217
             try clear q22
             try clear q221
             try clear q222
             obtain ⟨x16_4, x17_4, x19_4, rfl, rfl, HA, HK4, HO_12, HO_16, HO_115000, HO_115001, BK101, BK102, BK114, HB⟩ := hrel
             cases gk with
             | zero => exact absurd HA.out (by simp [walkmilllaw05_TenterOrder.l2])
             | succ k4 =>
              have H := HA.out
              clear HA
              simp only [walkmilllaw05_TenterOrder.l2] at H
              by_cases c179 : x19_4 < (x12_1.length : Int)
              ·
               rw [if_pos c179] at H
               have c179b0 : decide (x19_4 < (x12_1.length : Int)) = true := decide_eq_true c179
               clear c179
               obtain ⟨t158, A180, H⟩ := bi H
               by_cases c181 : (x16_4.length : Int) = 0
               ·
                rw [if_pos c181] at H
                exact absurd H (by simp)
               ·
                rw [if_neg c181] at H
                have c181b0 : ((x16_4.length : Int) == 0) = false := beq_eq_false_iff_ne.mpr c181
                have c181b1 : ((x16_4.length : Int) != 0) = true := bne_iff_ne.mpr c181
                have c181b2 : ¬ (x16_4 = []) := fun h_ => c181 (by rw [h_]; rfl)
                by_cases c182 : x17_4 = true
                ·
                 subst c182
                 rw [if_pos rfl] at H
                 obtain ⟨ji183, hji183⟩ : ∃ j_ : Int, (Int.tmod t158 (x16_4.length : Int)) = j_ := ⟨_, rfl⟩
                 replace H : (if 0 ≤ (ji183) then (if (ji183) < (x16_4.length : Int) then (if 0 ≤ (rd x16_4 (ji183)) then (if (rd x16_4 (ji183)) < (x12_1.length : Int) then ((some (([] : List Int) : List Int)).bind fun y161 => (if (ji183) ≤ (x16_4.length : Int) then ((some (x16_4.take ((ji183) : Int).toNat : List Int)).bind fun y164 => (if y161.length + y164.length < 17592186044416 then ((some (y161 ++ y164 : List Int)).bind fun y168 => (if 0 ≤ (wrap64 ((ji183) + 1)) then (if (wrap64 ((ji183) + 1)) ≤ (x16_4.length : Int) then ((some (x16_4.drop ((wrap64 ((ji183) + 1)) : Int).toNat : List Int)).bind fun y171 => (if y168.length + y171.length < 17592186044416 then (walkmilllaw05_TenterOrder.l2 k4 l1 x12_1 (y168 ++ y171) (decide ((rd x12_1 (rd x16_4 (ji183))) ≥ x19_4)) (wrap64 (x19_4 + 1))) else (none))) else (none)) else (none))) else (none))) else (none))) else (none)) else (none)) else (none)) else (none)) = some r := by first | (rw [hji183] at H; exact H) | (simp only [hji183] at H ⊢; exact H)
                 (try rw [hji183] at A180)
                 by_cases c184 : 0 ≤ (ji183)
                 ·
                  rw [if_pos c184] at H
                  have c184b0 : decide (0 ≤ (ji183)) = true := decide_eq_true c184
                  clear c184
                  by_cases c185 : (ji183) < (x16_4.length : Int)
                  ·
                   rw [if_pos c185] at H
                   have c185b0 : decide ((ji183) < (x16_4.length : Int)) = true := decide_eq_true c185
                   clear c185
                   by_cases c186 : 0 ≤ (rd x16_4 (ji183))
                   ·
                    rw [if_pos c186] at H
                    have c186b0 : decide (0 ≤ (rd x16_4 (ji183))) = true := decide_eq_true c186
                    clear c186
                    by_cases c187 : (rd x16_4 (ji183)) < (x12_1.length : Int)
                    ·
                     rw [if_pos c187] at H
                     have c187b0 : decide ((rd x16_4 (ji183)) < (x12_1.length : Int)) = true := decide_eq_true c187
                     clear c187
                     obtain ⟨y161, hy161⟩ : ∃ y_ : List Int, y_ = (([] : List Int)) := ⟨_, rfl⟩
                     replace H : (if (ji183) ≤ (x16_4.length : Int) then ((some (x16_4.take ((ji183) : Int).toNat : List Int)).bind fun y164 => (if y161.length + y164.length < 17592186044416 then ((some (y161 ++ y164 : List Int)).bind fun y168 => (if 0 ≤ (wrap64 ((ji183) + 1)) then (if (wrap64 ((ji183) + 1)) ≤ (x16_4.length : Int) then ((some (x16_4.drop ((wrap64 ((ji183) + 1)) : Int).toNat : List Int)).bind fun y171 => (if y168.length + y171.length < 17592186044416 then (walkmilllaw05_TenterOrder.l2 k4 l1 x12_1 (y168 ++ y171) (decide ((rd x12_1 (rd x16_4 (ji183))) ≥ x19_4)) (wrap64 (x19_4 + 1))) else (none))) else (none)) else (none))) else (none))) else (none)) = some r := yy hy161 H
                     have Ny161 := Aside0.mk hy161
                     clear hy161
                     have c188b0 := eq_true (dT : 0 ≤ (ji183))
                     by_cases c189 : (ji183) ≤ (x16_4.length : Int)
                     ·
                      rw [if_pos c189] at H
                      have c189b0 := eq_true c189
                      have c189b1 : decide ((ji183) ≤ (x16_4.length : Int)) = true := decide_eq_true c189
                      clear c189
                      obtain ⟨y164, hy164⟩ : ∃ y_ : List Int, y_ = (x16_4.take ((ji183) : Int).toNat) := ⟨_, rfl⟩
                      replace H : (if y161.length + y164.length < 17592186044416 then ((some (y161 ++ y164 : List Int)).bind fun y168 => (if 0 ≤ (wrap64 ((ji183) + 1)) then (if (wrap64 ((ji183) + 1)) ≤ (x16_4.length : Int) then ((some (x16_4.drop ((wrap64 ((ji183) + 1)) : Int).toNat : List Int)).bind fun y171 => (if y168.length + y171.length < 17592186044416 then (walkmilllaw05_TenterOrder.l2 k4 l1 x12_1 (y168 ++ y171) (decide ((rd x12_1 (rd x16_4 (ji183))) ≥ x19_4)) (wrap64 (x19_4 + 1))) else (none))) else (none)) else (none))) else (none)) = some r := yy hy164 H
                      have Ny164 := Aside0.mk hy164
                      clear hy164
                      by_cases c190 : y161.length + y164.length < 17592186044416
                      ·
                       rw [if_pos c190] at H
                       have LMc190 := Aside0.mk c190
                       clear c190
                       obtain ⟨y168, hy168⟩ : ∃ y_ : List Int, y_ = (y161 ++ y164) := ⟨_, rfl⟩
                       replace H : (if 0 ≤ (wrap64 ((ji183) + 1)) then (if (wrap64 ((ji183) + 1)) ≤ (x16_4.length : Int) then ((some (x16_4.drop ((wrap64 ((ji183) + 1)) : Int).toNat : List Int)).bind fun y171 => (if y168.length + y171.length < 17592186044416 then (walkmilllaw05_TenterOrder.l2 k4 l1 x12_1 (y168 ++ y171) (decide ((rd x12_1 (rd x16_4 (ji183))) ≥ x19_4)) (wrap64 (x19_4 + 1))) else (none))) else (none)) else (none)) = some r := yy hy168 H
                       have Ny168 := Aside0.mk hy168
                       clear hy168
                       obtain ⟨ji191, hji191⟩ : ∃ j_ : Int, (wrap64 ((ji183) + 1)) = j_ := ⟨_, rfl⟩
                       replace H : (if 0 ≤ (ji191) then (if (ji191) ≤ (x16_4.length : Int) then ((some (x16_4.drop ((ji191) : Int).toNat : List Int)).bind fun y171 => (if y168.length + y171.length < 17592186044416 then (walkmilllaw05_TenterOrder.l2 k4 l1 x12_1 (y168 ++ y171) (decide ((rd x12_1 (rd x16_4 (ji183))) ≥ x19_4)) (wrap64 (x19_4 + 1))) else (none))) else (none)) else (none)) = some r := by first | (rw [hji191] at H; exact H) | (simp only [hji191] at H ⊢; exact H)
                       (try rw [hji191] at A180)
                       have hji191w : (IntKind.i64.wrap ((ji183) + 1)) = ji191 := (i64_w _).trans hji191
                       by_cases c192 : 0 ≤ (ji191)
                       ·
                        rw [if_pos c192] at H
                        have c192b0 := eq_true c192
                        have c192b1 : decide (0 ≤ (ji191)) = true := decide_eq_true c192
                        clear c192
                        by_cases c193 : (ji191) ≤ (x16_4.length : Int)
                        ·
                         rw [if_pos c193] at H
                         have c193b0 := eq_true c193
                         have c193b1 : decide ((ji191) ≤ (x16_4.length : Int)) = true := decide_eq_true c193
                         clear c193
                         obtain ⟨y171, hy171⟩ : ∃ y_ : List Int, y_ = (x16_4.drop ((ji191) : Int).toNat) := ⟨_, rfl⟩
                         replace H : (if y168.length + y171.length < 17592186044416 then (walkmilllaw05_TenterOrder.l2 k4 l1 x12_1 (y168 ++ y171) (decide ((rd x12_1 (rd x16_4 (ji183))) ≥ x19_4)) (wrap64 (x19_4 + 1))) else (none)) = some r := yy hy171 H
                         have Ny171 := Aside0.mk hy171
                         clear hy171
                         by_cases c194 : y168.length + y171.length < 17592186044416
                         ·
                          rw [if_pos c194] at H
                          have LMc194 := Aside0.mk c194
                          clear c194
                          obtain ⟨y175, hy175⟩ : ∃ y_ : List Int, y_ = (y168 ++ y171) := ⟨_, rfl⟩
                          replace H : (walkmilllaw05_TenterOrder.l2 k4 l1 x12_1 y175 (decide ((rd x12_1 (rd x16_4 (ji183))) ≥ x19_4)) (wrap64 (x19_4 + 1))) = some r := yy hy175 H
                          have Ny175 := Aside0.mk hy175
                          clear hy175
                          have H' := Aside0.mk H
                          clear H
                          try go_wp2_with (first | ((with_reducible refine gc 11 rfl ?_); refine gL 102 Tryd.func11 #[.slice A1 l1.length c1, .int .i64 x19_4] ?_; (with_reducible refine (walkmilllaw05_byteOf.calls _ _ l1 x19_4 t158 _ ?side1 ?side2 A180.out).mono ?_); (case side1 => exact pC (Kd.C_below HR1.out HB.out)); (case side2 => exact HC1.out); rintro e w' ⟨rfl, ⟨nd, rfl⟩⟩; refine ⟨_, rfl, ?_⟩; obtain ⟨Ao195, co195, eo195⟩ := Kd.R_slice HO_16.out; subst eo195; have p159 : 0 ≤ ((ji183) : Int) := dT; have q159 : (ji183) < (x16_4.length : Int) := dT; obtain ⟨ad159, e159, hx159_0⟩ := Kd.at_int (Kd.R_reads' HO_16.out).2.2 (ji183) p159 q159; cases e159; replace p159 := eq_true p159; replace q159 := eq_true q159; have p160 : 0 ≤ ((rd x16_4 (ji183)) : Int) := dT; have q160 : (rd x16_4 (ji183)) < (x12_1.length : Int) := dT; obtain ⟨ad160, e160, hx160_0⟩ := Kd.at_int (Kd.R_reads' HO_12.out).2.2 (rd x16_4 (ji183)) p160 q160; cases e160; replace p160 := eq_true p160; replace q160 := eq_true q160))
                          (try (rw [drewN_self wr]; generalize hq_ : World.drewN wr _ = wr; have n0_ : Aside0 (Kd.R k42 42 wr w.heap.size (fun _ => True) (.slice Ao17 t103.length co17) t103) := ⟨by rw [← hq_]; exact (pR HO_115000.out)⟩; have n1_ : Aside0 (Kd.R (Kd.int .i64) 3 wr w.heap.size (fun k_ => some k_ ≠ (.slice (some ad160) x12_1.length co178 : Value).ownBlock ∧ some k_ ≠ (.slice (some ad159) x16_4.length co195 : Value).ownBlock) (.slice Ao19 t106.length co19) t106) := ⟨by rw [← hq_]; exact (pR HO_115001.out)⟩; have n2_ : Aside0 (Kd.R (Kd.int .i64) 3 wr w.heap.size (fun k_ => (some k_ ≠ (.slice (some ad159) x16_4.length co195 : Value).ownBlock ∧ some k_ ≠ (.slice Ao19 t106.length co19 : Value).ownBlock)) (.slice (some ad160) x12_1.length co178) x12_1) := ⟨by rw [← hq_]; exact (pR HO_12.out)⟩; have n3_ : Aside0 (Kd.R (Kd.int .i64) 3 wr w.heap.size (fun k_ => (some k_ ≠ (.slice (some ad160) x12_1.length co178 : Value).ownBlock ∧ some k_ ≠ (.slice Ao19 t106.length co19 : Value).ownBlock)) (.slice (some ad159) x16_4.length co195) x16_4) := ⟨by rw [← hq_]; exact (pR HO_16.out)⟩; have n4_ : Aside0 (wr.heap[gb101]? = some (.cells #[.slice A0_0 l0_0.length c0_0, .int .u8 a0_1, .int .u8 a0_2, .int .u8 a0_3, .int .u8 a0_4, .int .u8 a0_5, .slice A0_6 l0_6.length c0_6] 26 (0, 0))) := ⟨by rw [← hq_]; exact (pB BK101.out)⟩; have n5_ : Aside0 (wr.heap[gb102]? = some (.cells #[.int .u8 a2_0, .int .u8 a2_1] 65 (0, 0))) := ⟨by rw [← hq_]; exact (pB BK102.out)⟩; have n6_ : Aside0 (wr.heap[gb114]? = some (.cells #[.slice Ao17 t103.length co17, .slice Ao19 t106.length co19, .int .i64 t109, .int .i64 t110] 32 (0, 0))) := ⟨by rw [← hq_]; exact (pB BK114.out)⟩; have n7_ : Aside0 (Below w.heap.size w wr) := ⟨by rw [← hq_]; exact (pE HB)⟩; clear HO_115000 HO_115001 HO_12 HO_16 BK101 BK102 BK114 HB hq_; have HO_115000 := n0_; have HO_115001 := n1_; have HO_12 := n2_; have HO_16 := n3_; have BK101 := n4_; have BK102 := n5_; have BK114 := n6_; have HB := n7_; clear n0_ n1_ n2_ n3_ n4_ n5_ n6_ n7_))
                          replace HO_12 := Aside0.mk (Kd.R_drew HO_12.out)
                          replace HO_16 := Aside0.mk (Kd.R_drew HO_16.out)
                          replace HO_115000 := Aside0.mk (Kd.R_drew HO_115000.out)
                          replace HO_115001 := Aside0.mk (Kd.R_drew HO_115001.out)
                          replace BK101 := Aside0.mk (blk_drew BK101.out)
                          replace BK102 := Aside0.mk (blk_drew BK102.out)
                          replace BK114 := Aside0.mk (blk_drew BK114.out)
                          replace HB := Aside0.mk (below_drew1 HB.out)
                          have q197 : ((ji183) : Int) ≤ ((x16_4.length : Int) : Int) := dT
                          obtain ⟨i0197, hi0197, _, hsz197, _⟩ := info_parts info3
                          have hroom197 : x16_4.length ≤ co195 := (Kd.R_reads' HO_16.out).2.1
                          have hC197 : Kd.C (Kd.int .i64) _ (some ad159) x16_4.length x16_4 := (Kd.R_reads' HO_16.out).2.2
                          have hcut197 := cut_to (P := Tryd.prog) 30 3 .i64 Tryd.underlying30 hi0197 (some ad159) x16_4.length co195 (ji183) (dT) q197 hroom197
                          have hr197 := Kd.C_take (m := ((ji183) : Int).toNat) hC197 (by omega)
                          have hy197 : y164.length = ((ji183) : Int).toNat := (by rw [Ny164.out, List.length_take]; omega)
                          rw [← Ny164.out] at hr197
                          rw [← hy197] at hcut197
                          have HR167 := Aside0.mk hr197
                          have HC167 := Aside0.mk (show y164.length ≤ co195 from by omega)
                          clear hr197 hC197 hroom197 hi0197 hsz197
                          have KY197 := Aside0.mk hy197
                          clear hy197
                          have KL197 := Aside0.mk (show ((ji183) : Int).toNat ≤ x16_4.length from by omega)
                          replace q197 := eq_true q197
                          have q198 : ((ji191) : Int) ≤ ((x16_4.length : Int) : Int) := dT
                          obtain ⟨i0198, hi0198, _, hsz198, _⟩ := info_parts info3
                          have hroom198 : x16_4.length ≤ co195 := (Kd.R_reads' HO_16.out).2.1
                          have hC198 : Kd.C (Kd.int .i64) _ (some ad159) x16_4.length x16_4 := (Kd.R_reads' HO_16.out).2.2
                          have q0198 : (0 : Int) ≤ ((ji191) : Int) := dT
                          have hcut198 := cut_from (P := Tryd.prog) 30 3 .i64 Tryd.underlying30 hi0198 1 hsz198 (some ad159) x16_4.length co195 (ji191) q0198 q198
                          have hr198 := Kd.C_drop (m := ((ji191) : Int).toNat) (c := co195) hC198 (by omega) hroom198
                          obtain ⟨A198, hA198⟩ : ∃ A1, A1 = (if co195 = ((ji191) : Int).toNat then (some ad159) else ((some ad159) : Option Addr).map (·.add (((ji191) : Int).toNat * 1))) := ⟨_, rfl⟩
                          obtain ⟨c198, hc198⟩ : ∃ c1, c1 = co195 - ((ji191) : Int).toNat := ⟨_, rfl⟩
                          have hy198 : y171.length = x16_4.length - ((ji191) : Int).toNat := (by rw [Ny171.out, List.length_drop] <;> omega)
                          rw [show (x16_4).drop ((ji191) : Int).toNat = y171 from Ny171.out.symm] at hr198
                          replace hr198 : Kd.C (Kd.int .i64) _ A198 y171.length y171 := (by rw [hA198]; exact hr198)
                          rw [← hy198, ← hA198, ← hc198] at hcut198
                          have HR174 := Aside0.mk hr198
                          have HC174 := Aside0.mk (show y171.length ≤ c198 from by rw [hy198, hc198]; exact Nat.sub_le_sub_right hroom198 _)
                          clear hr198 hC198 hroom198 hi0198 hsz198 hc198
                          have KY198 := Aside0.mk hy198
                          have KA198 := Aside0.mk hA198
                          clear hy198 hA198
                          have KL198 := Aside0.mk (show ((ji191) : Int).toNat ≤ x16_4.length from by omega)
                          replace q198 := eq_true q198
                          refine start_ (n := 11) (S := fun w' => True) (ds := []) #[false, false, false, false, false, false, false, false, false, false, false] (by kernel_rfl) rfl rfl trivial (fun hHeld => ?_); refine with_tabW walkmilllaw05_TenterOrder.tab25 walkmilllaw05_TenterOrder.bits25 (fun HT_ HW_ => ?_)
                          generalize wr.drew = w196 at HO_12 HO_16 HO_115000 HO_115001 BK101 BK102 BK114 HB HR167 HR174 hHeld ⊢
                          refine pu 1 119 ?_
                          refine pu 2 120 ?_
                          refine pu 3 121 ?_
                          refine pu 5 123 ?_
                          refine pu 6 124 ?_
                          refine pu 7 125 ?_
                          refine pu 8 126 ?_
                          refine on 0 (fun K hK => ?_)
                          refine Kd.R_lit_step (Kd.int .i64) _ 3 ?hg (N := 118) ?hd (xs := ([] : List Int)) (inner := []) (ok := fun _ => True) (okp := fun _ => True) ?hr ?hp (fun _ hk => hk) trivial (Below.refl _ _) (Nat.le_refl _) (by simp) ?_; (case hd => rfl); (case hg => rfl); (case hr => first | (go_simp; done) | (go_simp; rfl)); (case hp => exact (Reps.none _ _))
                          intro v162 w199 ho200 hb hg_ hnew_
                          clear hg_ hnew_
                          (first | rw [← Ny161.out] at ho200 | (simp only [Int.reduceToNat] at ho200; rw [← Ny161.out] at ho200))
                          replace HO_115000 := rb HO_115000 hb
                          have HO163 := Aside0.mk (Kd.R_lower (Kd.R_new' (Kd.R_new' (Kd.R_new' ho200 (Kd.R_lt (pR HO_12.out))) (Kd.R_lt (pR HO_16.out))) (Kd.R_lt (pR HO_115001.out))) (below_size (pE HB)))
                          replace HO_12 := re HO_12 ho200 hb
                          replace HO_16 := re HO_16 ho200 hb
                          replace HO_115001 := re HO_115001 ho200 hb
                          replace BK101 := bb BK101 hb
                          replace BK102 := bb BK102 hb
                          replace BK114 := bb BK114 hb
                          replace HR167 := cr HR167 hb
                          replace HR174 := cr HR174 hb
                          replace HB := bs HB hb
                          clear hb ho200
                          refine hK.out _ _ trivial (fun hHeld => ?_)
                          clear hK K
                          refine norm_ (a' := ?_) ?_ ?_
                          rotate_left
                          ·
                           show Act.put _ (some 118) _ = _
                           simp only [Act.put, List.setIfInBounds_toArray, List.set_cons_zero, List.set_cons_succ, i64_w, i32_w]
                           rfl
                          refine on 4 (fun K hK => ?_)
                          refine Kd.R_append_rows_step (Kd.int .i64) (w0 := w) w.heap.size (by rfl) (.tmp 118) (.tmp 121) 30 3 (.int .i64 0) 8 rfl Tryd.underlying30 info3 rfl (by decide) (by omega) v162 y161 y164 _ _ _ (fun k_ => some k_ ≠ (.slice (some ad160) x12_1.length co178 : Value).ownBlock ∧ some k_ ≠ (.slice (some ad159) x16_4.length co195 : Value).ownBlock ∧ some k_ ≠ (.slice Ao19 t106.length co19 : Value).ownBlock) (fun _ => False) rfl rfl ?aO ?aR (fun _ _ h => h) (fun _ h => h.elim) ?aF ?aB ?aS ?aL ?_
                          (case aR => exact pC HR167.out)
                          (case aB => exact (pE HB))
                          (case aF => exact (fun k_ hk => ⟨Kd.fresh' (Kd.R_lt (pR HO_12.out)) k_ hk, Kd.fresh' (Kd.R_lt (pR HO_16.out)) k_ hk, Kd.fresh' (Kd.R_lt (pR HO_115001.out)) k_ hk⟩))
                          (case aO => exact (by refine pR ?_; exact Kd.R_mono HO163.out (fun _ hk => ⟨hk.1.1.2, ⟨hk.1.2, hk.2⟩⟩)))
                          (case aS => exact (below_size (pE HB)))
                          (case aL => have := LMc190.out; omega)
                          intro v169 w201 ho hb hg hat
                          rw [← Ny168.out] at ho
                          replace HO_12 := Aside0.mk (Kd.R_after (ok := (fun k_ => some k_ ≠ (.slice (some ad159) x16_4.length co195 : Value).ownBlock ∧ some k_ ≠ (.slice Ao19 t106.length co19 : Value).ownBlock)) (pR HO_12.out) hg hat)
                          replace HO_115000 := Aside0.mk (Kd.R_over' (pR HO_115000.out) (Kd.R_typed (pR HO163.out)) (by decide) hg)
                          replace HO_115001 := Aside0.mk (Kd.R_after (ok := (fun k_ => some k_ ≠ (.slice (some ad160) x12_1.length co178 : Value).ownBlock ∧ some k_ ≠ (.slice (some ad159) x16_4.length co195 : Value).ownBlock)) (pR HO_115001.out) hg hat)
                          replace BK101 := Aside0.mk (blk_grown (g := gb101) (o := .cells #[.slice A0_0 l0_0.length c0_0, .int .u8 a0_1, .int .u8 a0_2, .int .u8 a0_3, .int .u8 a0_4, .int .u8 a0_5, .slice A0_6 l0_6.length c0_6] 26 (0, 0)) (pB BK101.out) hg (Kd.R_ne HO163.out BK101.out (by decide)))
                          replace BK102 := Aside0.mk (blk_grown (g := gb102) (o := .cells #[.int .u8 a2_0, .int .u8 a2_1] 65 (0, 0)) (pB BK102.out) hg (Kd.R_ne HO163.out BK102.out (by decide)))
                          replace BK114 := Aside0.mk (blk_grown (g := gb114) (o := .cells #[.slice Ao17 t103.length co17, .slice Ao19 t106.length co19, .int .i64 t109, .int .i64 t110] 32 (0, 0)) (pB BK114.out) hg (Kd.R_ne HO163.out BK114.out (by decide)))
                          replace HB := Aside0.mk (hb)
                          replace HR167 := Aside0.mk ((show Kd.C (Kd.int .i64) w201 (some ad159) y164.length y164 from by rw [Ny164.out]; exact Kd.C_take (m := ((ji183) : Int).toNat) ((Kd.R_reads' (Kd.R_after (ok := (fun k_ => some k_ ≠ (.slice (some ad160) x12_1.length co178 : Value).ownBlock ∧ some k_ ≠ (.slice Ao19 t106.length co19 : Value).ownBlock)) (pR HO_16.out) hg hat)).2.2) KL197.out))
                          replace HR174 := Aside0.mk ((show Kd.C (Kd.int .i64) w201 A198 y171.length y171 from by rw [Ny171.out, KA198.out]; exact Kd.C_drop (m := ((ji191) : Int).toNat) (c := co195) ((Kd.R_reads' (Kd.R_after (ok := (fun k_ => some k_ ≠ (.slice (some ad160) x12_1.length co178 : Value).ownBlock ∧ some k_ ≠ (.slice Ao19 t106.length co19 : Value).ownBlock)) (pR HO_16.out) hg hat)).2.2) KL198.out ((Kd.R_reads' (Kd.R_after (ok := (fun k_ => some k_ ≠ (.slice (some ad160) x12_1.length co178 : Value).ownBlock ∧ some k_ ≠ (.slice Ao19 t106.length co19 : Value).ownBlock)) (pR HO_16.out) hg hat)).2.1)))
                          replace HO_16 := Aside0.mk (Kd.R_after (ok := (fun k_ => some k_ ≠ (.slice (some ad160) x12_1.length co178 : Value).ownBlock ∧ some k_ ≠ (.slice Ao19 t106.length co19 : Value).ownBlock)) (pR HO_16.out) hg hat)
                          have HO170 := Aside0.mk (ho)
                          clear HO163 ho hb hg hat
                          refine hK.out _ _ trivial (fun hHeld => ?_)
                          clear hK K
                          refine norm_ (a' := ?_) ?_ ?_
                          rotate_left
                          ·
                           show Act.put _ (some 122) _ = _
                           simp only [Act.put, List.setIfInBounds_toArray, List.set_cons_zero, List.set_cons_succ, i64_w, i32_w]
                           rfl
                          refine on 9 (fun K hK => ?_)
                          refine Kd.R_append_rows_step (Kd.int .i64) (w0 := w) w.heap.size (by rfl) (.tmp 122) (.tmp 126) 30 3 (.int .i64 0) 8 rfl Tryd.underlying30 info3 rfl (by decide) (by omega) v169 y168 y171 _ _ _ (fun k_ => some k_ ≠ (.slice (some ad160) x12_1.length co178 : Value).ownBlock ∧ some k_ ≠ (.slice (some ad159) x16_4.length co195 : Value).ownBlock ∧ some k_ ≠ (.slice Ao19 t106.length co19 : Value).ownBlock) (fun _ => False) rfl rfl ?aO ?aR (fun _ _ h => h) (fun _ h => h.elim) ?aF ?aB ?aS ?aL ?_
                          (case aR => exact pC HR174.out)
                          (case aB => exact (pE HB))
                          (case aF => exact (fun k_ hk => ⟨Kd.fresh' (Kd.R_lt (pR HO_12.out)) k_ hk, Kd.fresh' (Kd.R_lt (pR HO_16.out)) k_ hk, Kd.fresh' (Kd.R_lt (pR HO_115001.out)) k_ hk⟩))
                          (case aO => exact (pR HO170.out))
                          (case aS => exact (below_size (pE HB)))
                          (case aL => have := LMc194.out; omega)
                          intro v176 w202 ho hb hg hat
                          rw [← Ny175.out] at ho
                          replace HO_12 := Aside0.mk (Kd.R_after (ok := (fun k_ => some k_ ≠ (.slice (some ad159) x16_4.length co195 : Value).ownBlock ∧ some k_ ≠ (.slice Ao19 t106.length co19 : Value).ownBlock)) (pR HO_12.out) hg hat)
                          replace HO_115000 := Aside0.mk (Kd.R_over' (pR HO_115000.out) (Kd.R_typed (pR HO170.out)) (by decide) hg)
                          replace HO_115001 := Aside0.mk (Kd.R_after (ok := (fun k_ => some k_ ≠ (.slice (some ad160) x12_1.length co178 : Value).ownBlock ∧ some k_ ≠ (.slice (some ad159) x16_4.length co195 : Value).ownBlock)) (pR HO_115001.out) hg hat)
                          replace BK101 := Aside0.mk (blk_grown (g := gb101) (o := .cells #[.slice A0_0 l0_0.length c0_0, .int .u8 a0_1, .int .u8 a0_2, .int .u8 a0_3, .int .u8 a0_4, .int .u8 a0_5, .slice A0_6 l0_6.length c0_6] 26 (0, 0)) (pB BK101.out) hg (Kd.R_ne HO170.out BK101.out (by decide)))
                          replace BK102 := Aside0.mk (blk_grown (g := gb102) (o := .cells #[.int .u8 a2_0, .int .u8 a2_1] 65 (0, 0)) (pB BK102.out) hg (Kd.R_ne HO170.out BK102.out (by decide)))
                          replace BK114 := Aside0.mk (blk_grown (g := gb114) (o := .cells #[.slice Ao17 t103.length co17, .slice Ao19 t106.length co19, .int .i64 t109, .int .i64 t110] 32 (0, 0)) (pB BK114.out) hg (Kd.R_ne HO170.out BK114.out (by decide)))
                          replace HB := Aside0.mk (hb)
                          replace HR167 := Aside0.mk ((show Kd.C (Kd.int .i64) w202 (some ad159) y164.length y164 from by rw [Ny164.out]; exact Kd.C_take (m := ((ji183) : Int).toNat) ((Kd.R_reads' (Kd.R_after (ok := (fun k_ => some k_ ≠ (.slice (some ad160) x12_1.length co178 : Value).ownBlock ∧ some k_ ≠ (.slice Ao19 t106.length co19 : Value).ownBlock)) (pR HO_16.out) hg hat)).2.2) KL197.out))
                          replace HR174 := Aside0.mk ((show Kd.C (Kd.int .i64) w202 A198 y171.length y171 from by rw [Ny171.out, KA198.out]; exact Kd.C_drop (m := ((ji191) : Int).toNat) (c := co195) ((Kd.R_reads' (Kd.R_after (ok := (fun k_ => some k_ ≠ (.slice (some ad160) x12_1.length co178 : Value).ownBlock ∧ some k_ ≠ (.slice Ao19 t106.length co19 : Value).ownBlock)) (pR HO_16.out) hg hat)).2.2) KL198.out ((Kd.R_reads' (Kd.R_after (ok := (fun k_ => some k_ ≠ (.slice (some ad160) x12_1.length co178 : Value).ownBlock ∧ some k_ ≠ (.slice Ao19 t106.length co19 : Value).ownBlock)) (pR HO_16.out) hg hat)).2.1)))
                          replace HO_16 := Aside0.mk (Kd.R_after (ok := (fun k_ => some k_ ≠ (.slice (some ad160) x12_1.length co178 : Value).ownBlock ∧ some k_ ≠ (.slice Ao19 t106.length co19 : Value).ownBlock)) (pR HO_16.out) hg hat)
                          have HO177 := Aside0.mk (ho)
                          clear HO170 ho hb hg hat
                          refine hK.out _ _ trivial (fun hHeld => ?_)
                          clear hK K
                          refine norm_ (a' := ?_) ?_ ?_
                          rotate_left
                          ·
                           show Act.put _ (some 127) _ = _
                           simp only [Act.put, List.setIfInBounds_toArray, List.set_cons_zero, List.set_cons_succ, i64_w, i32_w]
                           rfl
                          refine pu 10 16 ?_
                          refine done_ (done_of HT_.out (by kernel_rfl)) ?_
                          try go_wp2
                          go_roundg k4
                          case measure => have := HK1.out; have := HJ164.out; have := HK3.out; have := HK4.out; omega
                          case rel => exact ⟨(y175), (decide ((rd x12_1 (rd x16_4 (ji183))) ≥ x19_4)), (wrap64 (x19_4 + 1)), (by first | rfl | (simp; done) | (simp only [← hji183] <;> (first | rfl | simp)) | (simp [*]; done)), (by first | rfl | (simp; done) | (simp [*]; done)), H', ⟨by have := HK1.out; have := HJ164.out; have := HK3.out; have := HK4.out; omega⟩, ⟨by (with_reducible repeat (first | apply Kd.R_alloc | apply Kd.R_drewN | apply Kd.R_drew)); exact Kd.R_mono HO_12.out (fun _ hk => ⟨hk.2, hk.1.2⟩)⟩, ⟨by (with_reducible repeat (first | apply Kd.R_alloc | apply Kd.R_drewN | apply Kd.R_drew)); exact Kd.R_mono HO177.out (fun _ hk => ⟨hk.1, hk.2.2⟩)⟩, ⟨by (with_reducible repeat (first | apply Kd.R_alloc | apply Kd.R_drewN | apply Kd.R_drew)); exact HO_115000.out⟩, ⟨by (with_reducible repeat (first | apply Kd.R_alloc | apply Kd.R_drewN | apply Kd.R_drew)); exact Kd.R_mono HO_115001.out (fun _ hk => ⟨hk.1.1, hk.2⟩)⟩, ⟨by (with_reducible repeat (first | refine blk_drewN ?_ _ | refine blk_drew ?_ | refine blk_alloc ?_ _)); exact BK101.out⟩, ⟨by (with_reducible repeat (first | refine blk_drewN ?_ _ | refine blk_drew ?_ | refine blk_alloc ?_ _)); exact BK102.out⟩, ⟨by (with_reducible repeat (first | refine blk_drewN ?_ _ | refine blk_drew ?_ | refine blk_alloc ?_ _)); exact BK114.out⟩, ⟨pE HB⟩⟩
                         ·
                          rw [if_neg c194] at H
                          exact absurd H (by simp)
                        ·
                         rw [if_neg c193] at H
                         exact absurd H (by simp)
                       ·
                        rw [if_neg c192] at H
                        exact absurd H (by simp)
                      ·
                       rw [if_neg c190] at H
                       exact absurd H (by simp)
                     ·
                      rw [if_neg c189] at H
                      exact absurd H (by simp)
                    ·
                     rw [if_neg c187] at H
                     exact absurd H (by simp)
                   ·
                    rw [if_neg c186] at H
                    exact absurd H (by simp)
                  ·
                   rw [if_neg c185] at H
                   exact absurd H (by simp)
                 ·
                  rw [if_neg c184] at H
                  exact absurd H (by simp)
                ·
                 replace c182 := Bool.eq_false_iff.mpr c182
                 subst c182
                 rw [if_neg (show ¬ (false = true) by decide)] at H
                 obtain ⟨y178, hy178⟩ : ∃ y_ : List Int, y_ = (([] : List Int)) := ⟨_, rfl⟩
                 replace H : (if 0 ≤ (Int.tmod t158 (x16_4.length : Int)) then (if (Int.tmod t158 (x16_4.length : Int)) ≤ (x16_4.length : Int) then ((some (x16_4.take ((Int.tmod t158 (x16_4.length : Int)) : Int).toNat : List Int)).bind fun y181 => (if y178.length + y181.length < 17592186044416 then ((some (y178 ++ y181 : List Int)).bind fun y185 => (if 0 ≤ (wrap64 ((Int.tmod t158 (x16_4.length : Int)) + 1)) then (if (wrap64 ((Int.tmod t158 (x16_4.length : Int)) + 1)) ≤ (x16_4.length : Int) then ((some (x16_4.drop ((wrap64 ((Int.tmod t158 (x16_4.length : Int)) + 1)) : Int).toNat : List Int)).bind fun y188 => (if y185.length + y188.length < 17592186044416 then (walkmilllaw05_TenterOrder.l2 k4 l1 x12_1 (y185 ++ y188) false (wrap64 (x19_4 + 1))) else (none))) else (none)) else (none))) else (none))) else (none)) else (none)) = some r := yy hy178 H
                 have Ny178 := Aside0.mk hy178
                 clear hy178
                 obtain ⟨ji203, hji203⟩ : ∃ j_ : Int, (Int.tmod t158 (x16_4.length : Int)) = j_ := ⟨_, rfl⟩
                 replace H : (if 0 ≤ (ji203) then (if (ji203) ≤ (x16_4.length : Int) then ((some (x16_4.take ((ji203) : Int).toNat : List Int)).bind fun y181 => (if y178.length + y181.length < 17592186044416 then ((some (y178 ++ y181 : List Int)).bind fun y185 => (if 0 ≤ (wrap64 ((ji203) + 1)) then (if (wrap64 ((ji203) + 1)) ≤ (x16_4.length : Int) then ((some (x16_4.drop ((wrap64 ((ji203) + 1)) : Int).toNat : List Int)).bind fun y188 => (if y185.length + y188.length < 17592186044416 then (walkmilllaw05_TenterOrder.l2 k4 l1 x12_1 (y185 ++ y188) false (wrap64 (x19_4 + 1))) else (none))) else (none)) else (none))) else (none))) else (none)) else (none)) = some r := by first | (rw [hji203] at H; exact H) | (simp only [hji203] at H ⊢; exact H)
                 (try rw [hji203] at A180)
                 by_cases c204 : 0 ≤ (ji203)
                 ·
                  rw [if_pos c204] at H
                  have c204b0 := eq_true c204
                  have c204b1 : decide (0 ≤ (ji203)) = true := decide_eq_true c204
                  clear c204
                  by_cases c205 : (ji203) ≤ (x16_4.length : Int)
                  ·
                   rw [if_pos c205] at H
                   have c205b0 := eq_true c205
                   have c205b1 : decide ((ji203) ≤ (x16_4.length : Int)) = true := decide_eq_true c205
                   clear c205
                   obtain ⟨y181, hy181⟩ : ∃ y_ : List Int, y_ = (x16_4.take ((ji203) : Int).toNat) := ⟨_, rfl⟩
                   replace H : (if y178.length + y181.length < 17592186044416 then ((some (y178 ++ y181 : List Int)).bind fun y185 => (if 0 ≤ (wrap64 ((ji203) + 1)) then (if (wrap64 ((ji203) + 1)) ≤ (x16_4.length : Int) then ((some (x16_4.drop ((wrap64 ((ji203) + 1)) : Int).toNat : List Int)).bind fun y188 => (if y185.length + y188.length < 17592186044416 then (walkmilllaw05_TenterOrder.l2 k4 l1 x12_1 (y185 ++ y188) false (wrap64 (x19_4 + 1))) else (none))) else (none)) else (none))) else (none)) = some r := yy hy181 H
                   have Ny181 := Aside0.mk hy181
                   clear hy181
                   by_cases c206 : y178.length + y181.length < 17592186044416
                   ·
                    rw [if_pos c206] at H
                    have LMc206 := Aside0.mk c206
                    clear c206
                    obtain ⟨y185, hy185⟩ : ∃ y_ : List Int, y_ = (y178 ++ y181) := ⟨_, rfl⟩
                    replace H : (if 0 ≤ (wrap64 ((ji203) + 1)) then (if (wrap64 ((ji203) + 1)) ≤ (x16_4.length : Int) then ((some (x16_4.drop ((wrap64 ((ji203) + 1)) : Int).toNat : List Int)).bind fun y188 => (if y185.length + y188.length < 17592186044416 then (walkmilllaw05_TenterOrder.l2 k4 l1 x12_1 (y185 ++ y188) false (wrap64 (x19_4 + 1))) else (none))) else (none)) else (none)) = some r := yy hy185 H
                    have Ny185 := Aside0.mk hy185
                    clear hy185
                    obtain ⟨ji207, hji207⟩ : ∃ j_ : Int, (wrap64 ((ji203) + 1)) = j_ := ⟨_, rfl⟩
                    replace H : (if 0 ≤ (ji207) then (if (ji207) ≤ (x16_4.length : Int) then ((some (x16_4.drop ((ji207) : Int).toNat : List Int)).bind fun y188 => (if y185.length + y188.length < 17592186044416 then (walkmilllaw05_TenterOrder.l2 k4 l1 x12_1 (y185 ++ y188) false (wrap64 (x19_4 + 1))) else (none))) else (none)) else (none)) = some r := by first | (rw [hji207] at H; exact H) | (simp only [hji207] at H ⊢; exact H)
                    (try rw [hji207] at A180)
                    have hji207w : (IntKind.i64.wrap ((ji203) + 1)) = ji207 := (i64_w _).trans hji207
                    by_cases c208 : 0 ≤ (ji207)
                    ·
                     rw [if_pos c208] at H
                     have c208b0 := eq_true c208
                     have c208b1 : decide (0 ≤ (ji207)) = true := decide_eq_true c208
                     clear c208
                     by_cases c209 : (ji207) ≤ (x16_4.length : Int)
                     ·
                      rw [if_pos c209] at H
                      have c209b0 := eq_true c209
                      have c209b1 : decide ((ji207) ≤ (x16_4.length : Int)) = true := decide_eq_true c209
                      clear c209
                      obtain ⟨y188, hy188⟩ : ∃ y_ : List Int, y_ = (x16_4.drop ((ji207) : Int).toNat) := ⟨_, rfl⟩
                      replace H : (if y185.length + y188.length < 17592186044416 then (walkmilllaw05_TenterOrder.l2 k4 l1 x12_1 (y185 ++ y188) false (wrap64 (x19_4 + 1))) else (none)) = some r := yy hy188 H
                      have Ny188 := Aside0.mk hy188
                      clear hy188
                      by_cases c210 : y185.length + y188.length < 17592186044416
                      ·
                       rw [if_pos c210] at H
                       have LMc210 := Aside0.mk c210
                       clear c210
                       obtain ⟨y192, hy192⟩ : ∃ y_ : List Int, y_ = (y185 ++ y188) := ⟨_, rfl⟩
                       replace H : (walkmilllaw05_TenterOrder.l2 k4 l1 x12_1 y192 false (wrap64 (x19_4 + 1))) = some r := yy hy192 H
                       have Ny192 := Aside0.mk hy192
                       clear hy192
                       have H' := Aside0.mk H
                       clear H
                       try go_wp2_with (first | ((with_reducible refine gc 11 rfl ?_); refine gL 102 Tryd.func11 #[.slice A1 l1.length c1, .int .i64 x19_4] ?_; (with_reducible refine (walkmilllaw05_byteOf.calls _ _ l1 x19_4 t158 _ ?side1 ?side2 A180.out).mono ?_); (case side1 => exact pC (Kd.C_below HR1.out HB.out)); (case side2 => exact HC1.out); rintro e w' ⟨rfl, ⟨nd, rfl⟩⟩; refine ⟨_, rfl, ?_⟩; obtain ⟨Ao211, co211, eo211⟩ := Kd.R_slice HO_16.out; subst eo211))
                       (try (rw [drewN_self wr]; generalize hq_ : World.drewN wr _ = wr; have n0_ : Aside0 (Kd.R k42 42 wr w.heap.size (fun _ => True) (.slice Ao17 t103.length co17) t103) := ⟨by rw [← hq_]; exact (pR HO_115000.out)⟩; have n1_ : Aside0 (Kd.R (Kd.int .i64) 3 wr w.heap.size (fun k_ => some k_ ≠ (.slice Ao178 x12_1.length co178 : Value).ownBlock ∧ some k_ ≠ (.slice Ao211 x16_4.length co211 : Value).ownBlock) (.slice Ao19 t106.length co19) t106) := ⟨by rw [← hq_]; exact (pR HO_115001.out)⟩; have n2_ : Aside0 (Kd.R (Kd.int .i64) 3 wr w.heap.size (fun k_ => (some k_ ≠ (.slice Ao211 x16_4.length co211 : Value).ownBlock ∧ some k_ ≠ (.slice Ao19 t106.length co19 : Value).ownBlock)) (.slice Ao178 x12_1.length co178) x12_1) := ⟨by rw [← hq_]; exact (pR HO_12.out)⟩; have n3_ : Aside0 (Kd.R (Kd.int .i64) 3 wr w.heap.size (fun k_ => (some k_ ≠ (.slice Ao178 x12_1.length co178 : Value).ownBlock ∧ some k_ ≠ (.slice Ao19 t106.length co19 : Value).ownBlock)) (.slice Ao211 x16_4.length co211) x16_4) := ⟨by rw [← hq_]; exact (pR HO_16.out)⟩; have n4_ : Aside0 (wr.heap[gb101]? = some (.cells #[.slice A0_0 l0_0.length c0_0, .int .u8 a0_1, .int .u8 a0_2, .int .u8 a0_3, .int .u8 a0_4, .int .u8 a0_5, .slice A0_6 l0_6.length c0_6] 26 (0, 0))) := ⟨by rw [← hq_]; exact (pB BK101.out)⟩; have n5_ : Aside0 (wr.heap[gb102]? = some (.cells #[.int .u8 a2_0, .int .u8 a2_1] 65 (0, 0))) := ⟨by rw [← hq_]; exact (pB BK102.out)⟩; have n6_ : Aside0 (wr.heap[gb114]? = some (.cells #[.slice Ao17 t103.length co17, .slice Ao19 t106.length co19, .int .i64 t109, .int .i64 t110] 32 (0, 0))) := ⟨by rw [← hq_]; exact (pB BK114.out)⟩; have n7_ : Aside0 (Below w.heap.size w wr) := ⟨by rw [← hq_]; exact (pE HB)⟩; clear HO_115000 HO_115001 HO_12 HO_16 BK101 BK102 BK114 HB hq_; have HO_115000 := n0_; have HO_115001 := n1_; have HO_12 := n2_; have HO_16 := n3_; have BK101 := n4_; have BK102 := n5_; have BK114 := n6_; have HB := n7_; clear n0_ n1_ n2_ n3_ n4_ n5_ n6_ n7_))
                       replace HO_12 := Aside0.mk (Kd.R_drew HO_12.out)
                       replace HO_16 := Aside0.mk (Kd.R_drew HO_16.out)
                       replace HO_115000 := Aside0.mk (Kd.R_drew HO_115000.out)
                       replace HO_115001 := Aside0.mk (Kd.R_drew HO_115001.out)
                       replace BK101 := Aside0.mk (blk_drew BK101.out)
                       replace BK102 := Aside0.mk (blk_drew BK102.out)
                       replace BK114 := Aside0.mk (blk_drew BK114.out)
                       replace HB := Aside0.mk (below_drew1 HB.out)
                       have q213 : ((ji203) : Int) ≤ ((x16_4.length : Int) : Int) := dT
                       obtain ⟨i0213, hi0213, _, hsz213, _⟩ := info_parts info3
                       have hroom213 : x16_4.length ≤ co211 := (Kd.R_reads' HO_16.out).2.1
                       have hC213 : Kd.C (Kd.int .i64) _ Ao211 x16_4.length x16_4 := (Kd.R_reads' HO_16.out).2.2
                       have hcut213 := cut_to (P := Tryd.prog) 30 3 .i64 Tryd.underlying30 hi0213 Ao211 x16_4.length co211 (ji203) (dT) q213 hroom213
                       have hr213 := Kd.C_take (m := ((ji203) : Int).toNat) hC213 (by omega)
                       have hy213 : y181.length = ((ji203) : Int).toNat := (by rw [Ny181.out, List.length_take]; omega)
                       rw [← Ny181.out] at hr213
                       rw [← hy213] at hcut213
                       have HR184 := Aside0.mk hr213
                       have HC184 := Aside0.mk (show y181.length ≤ co211 from by omega)
                       clear hr213 hC213 hroom213 hi0213 hsz213
                       have KY213 := Aside0.mk hy213
                       clear hy213
                       have KL213 := Aside0.mk (show ((ji203) : Int).toNat ≤ x16_4.length from by omega)
                       replace q213 := eq_true q213
                       have q214 : ((ji207) : Int) ≤ ((x16_4.length : Int) : Int) := dT
                       obtain ⟨i0214, hi0214, _, hsz214, _⟩ := info_parts info3
                       have hroom214 : x16_4.length ≤ co211 := (Kd.R_reads' HO_16.out).2.1
                       have hC214 : Kd.C (Kd.int .i64) _ Ao211 x16_4.length x16_4 := (Kd.R_reads' HO_16.out).2.2
                       have q0214 : (0 : Int) ≤ ((ji207) : Int) := dT
                       have hcut214 := cut_from (P := Tryd.prog) 30 3 .i64 Tryd.underlying30 hi0214 1 hsz214 Ao211 x16_4.length co211 (ji207) q0214 q214
                       have hr214 := Kd.C_drop (m := ((ji207) : Int).toNat) (c := co211) hC214 (by omega) hroom214
                       obtain ⟨A214, hA214⟩ : ∃ A1, A1 = (if co211 = ((ji207) : Int).toNat then Ao211 else (Ao211 : Option Addr).map (·.add (((ji207) : Int).toNat * 1))) := ⟨_, rfl⟩
                       obtain ⟨c214, hc214⟩ : ∃ c1, c1 = co211 - ((ji207) : Int).toNat := ⟨_, rfl⟩
                       have hy214 : y188.length = x16_4.length - ((ji207) : Int).toNat := (by rw [Ny188.out, List.length_drop] <;> omega)
                       rw [show (x16_4).drop ((ji207) : Int).toNat = y188 from Ny188.out.symm] at hr214
                       replace hr214 : Kd.C (Kd.int .i64) _ A214 y188.length y188 := (by rw [hA214]; exact hr214)
                       rw [← hy214, ← hA214, ← hc214] at hcut214
                       have HR191 := Aside0.mk hr214
                       have HC191 := Aside0.mk (show y188.length ≤ c214 from by rw [hy214, hc214]; exact Nat.sub_le_sub_right hroom214 _)
                       clear hr214 hC214 hroom214 hi0214 hsz214 hc214
                       have KY214 := Aside0.mk hy214
                       have KA214 := Aside0.mk hA214
                       clear hy214 hA214
                       have KL214 := Aside0.mk (show ((ji207) : Int).toNat ≤ x16_4.length from by omega)
                       replace q214 := eq_true q214
                       refine start_ (n := 11) (S := fun w' => True) (ds := []) #[false, false, false, false, false, false, false, false, false, false, false] (by kernel_rfl) rfl rfl trivial (fun hHeld => ?_); refine with_tabW walkmilllaw05_TenterOrder.tab25 walkmilllaw05_TenterOrder.bits25 (fun HT_ HW_ => ?_)
                       generalize wr.drew = w212 at HO_12 HO_16 HO_115000 HO_115001 BK101 BK102 BK114 HB HR184 HR191 hHeld ⊢
                       refine pu 1 119 ?_
                       refine pu 2 120 ?_
                       refine pu 3 121 ?_
                       refine pu 5 123 ?_
                       refine pu 6 124 ?_
                       refine pu 7 125 ?_
                       refine pu 8 126 ?_
                       refine on 0 (fun K hK => ?_)
                       refine Kd.R_lit_step (Kd.int .i64) _ 3 ?hg (N := 118) ?hd (xs := ([] : List Int)) (inner := []) (ok := fun _ => True) (okp := fun _ => True) ?hr ?hp (fun _ hk => hk) trivial (Below.refl _ _) (Nat.le_refl _) (by simp) ?_; (case hd => rfl); (case hg => rfl); (case hr => first | (go_simp; done) | (go_simp; rfl)); (case hp => exact (Reps.none _ _))
                       intro v179 w215 ho216 hb hg_ hnew_
                       clear hg_ hnew_
                       (first | rw [← Ny178.out] at ho216 | (simp only [Int.reduceToNat] at ho216; rw [← Ny178.out] at ho216))
                       replace HO_115000 := rb HO_115000 hb
                       have HO180 := Aside0.mk (Kd.R_lower (Kd.R_new' (Kd.R_new' (Kd.R_new' ho216 (Kd.R_lt (pR HO_12.out))) (Kd.R_lt (pR HO_16.out))) (Kd.R_lt (pR HO_115001.out))) (below_size (pE HB)))
                       replace HO_12 := re HO_12 ho216 hb
                       replace HO_16 := re HO_16 ho216 hb
                       replace HO_115001 := re HO_115001 ho216 hb
                       replace BK101 := bb BK101 hb
                       replace BK102 := bb BK102 hb
                       replace BK114 := bb BK114 hb
                       replace HR184 := cr HR184 hb
                       replace HR191 := cr HR191 hb
                       replace HB := bs HB hb
                       clear hb ho216
                       refine hK.out _ _ trivial (fun hHeld => ?_)
                       clear hK K
                       refine norm_ (a' := ?_) ?_ ?_
                       rotate_left
                       ·
                        show Act.put _ (some 118) _ = _
                        simp only [Act.put, List.setIfInBounds_toArray, List.set_cons_zero, List.set_cons_succ, i64_w, i32_w]
                        rfl
                       refine on 4 (fun K hK => ?_)
                       refine Kd.R_append_rows_step (Kd.int .i64) (w0 := w) w.heap.size (by rfl) (.tmp 118) (.tmp 121) 30 3 (.int .i64 0) 8 rfl Tryd.underlying30 info3 rfl (by decide) (by omega) v179 y178 y181 _ _ _ (fun k_ => some k_ ≠ (.slice Ao178 x12_1.length co178 : Value).ownBlock ∧ some k_ ≠ (.slice Ao211 x16_4.length co211 : Value).ownBlock ∧ some k_ ≠ (.slice Ao19 t106.length co19 : Value).ownBlock) (fun _ => False) rfl rfl ?aO ?aR (fun _ _ h => h) (fun _ h => h.elim) ?aF ?aB ?aS ?aL ?_
                       (case aR => exact pC HR184.out)
                       (case aB => exact (pE HB))
                       (case aF => exact (fun k_ hk => ⟨Kd.fresh' (Kd.R_lt (pR HO_12.out)) k_ hk, Kd.fresh' (Kd.R_lt (pR HO_16.out)) k_ hk, Kd.fresh' (Kd.R_lt (pR HO_115001.out)) k_ hk⟩))
                       (case aO => exact (by refine pR ?_; exact Kd.R_mono HO180.out (fun _ hk => ⟨hk.1.1.2, ⟨hk.1.2, hk.2⟩⟩)))
                       (case aS => exact (below_size (pE HB)))
                       (case aL => have := LMc206.out; omega)
                       intro v186 w217 ho hb hg hat
                       rw [← Ny185.out] at ho
                       replace HO_12 := Aside0.mk (Kd.R_after (ok := (fun k_ => some k_ ≠ (.slice Ao211 x16_4.length co211 : Value).ownBlock ∧ some k_ ≠ (.slice Ao19 t106.length co19 : Value).ownBlock)) (pR HO_12.out) hg hat)
                       replace HO_115000 := Aside0.mk (Kd.R_over' (pR HO_115000.out) (Kd.R_typed (pR HO180.out)) (by decide) hg)
                       replace HO_115001 := Aside0.mk (Kd.R_after (ok := (fun k_ => some k_ ≠ (.slice Ao178 x12_1.length co178 : Value).ownBlock ∧ some k_ ≠ (.slice Ao211 x16_4.length co211 : Value).ownBlock)) (pR HO_115001.out) hg hat)
                       replace BK101 := Aside0.mk (blk_grown (g := gb101) (o := .cells #[.slice A0_0 l0_0.length c0_0, .int .u8 a0_1, .int .u8 a0_2, .int .u8 a0_3, .int .u8 a0_4, .int .u8 a0_5, .slice A0_6 l0_6.length c0_6] 26 (0, 0)) (pB BK101.out) hg (Kd.R_ne HO180.out BK101.out (by decide)))
                       replace BK102 := Aside0.mk (blk_grown (g := gb102) (o := .cells #[.int .u8 a2_0, .int .u8 a2_1] 65 (0, 0)) (pB BK102.out) hg (Kd.R_ne HO180.out BK102.out (by decide)))
                       replace BK114 := Aside0.mk (blk_grown (g := gb114) (o := .cells #[.slice Ao17 t103.length co17, .slice Ao19 t106.length co19, .int .i64 t109, .int .i64 t110] 32 (0, 0)) (pB BK114.out) hg (Kd.R_ne HO180.out BK114.out (by decide)))
                       replace HB := Aside0.mk (hb)
                       replace HR184 := Aside0.mk ((show Kd.C (Kd.int .i64) w217 Ao211 y181.length y181 from by rw [Ny181.out]; exact Kd.C_take (m := ((ji203) : Int).toNat) ((Kd.R_reads' (Kd.R_after (ok := (fun k_ => some k_ ≠ (.slice Ao178 x12_1.length co178 : Value).ownBlock ∧ some k_ ≠ (.slice Ao19 t106.length co19 : Value).ownBlock)) (pR HO_16.out) hg hat)).2.2) KL213.out))
                       replace HR191 := Aside0.mk ((show Kd.C (Kd.int .i64) w217 A214 y188.length y188 from by rw [Ny188.out, KA214.out]; exact Kd.C_drop (m := ((ji207) : Int).toNat) (c := co211) ((Kd.R_reads' (Kd.R_after (ok := (fun k_ => some k_ ≠ (.slice Ao178 x12_1.length co178 : Value).ownBlock ∧ some k_ ≠ (.slice Ao19 t106.length co19 : Value).ownBlock)) (pR HO_16.out) hg hat)).2.2) KL214.out ((Kd.R_reads' (Kd.R_after (ok := (fun k_ => some k_ ≠ (.slice Ao178 x12_1.length co178 : Value).ownBlock ∧ some k_ ≠ (.slice Ao19 t106.length co19 : Value).ownBlock)) (pR HO_16.out) hg hat)).2.1)))
                       replace HO_16 := Aside0.mk (Kd.R_after (ok := (fun k_ => some k_ ≠ (.slice Ao178 x12_1.length co178 : Value).ownBlock ∧ some k_ ≠ (.slice Ao19 t106.length co19 : Value).ownBlock)) (pR HO_16.out) hg hat)
                       have HO187 := Aside0.mk (ho)
                       clear HO180 ho hb hg hat
                       refine hK.out _ _ trivial (fun hHeld => ?_)
                       clear hK K
                       refine norm_ (a' := ?_) ?_ ?_
                       rotate_left
                       ·
                        show Act.put _ (some 122) _ = _
                        simp only [Act.put, List.setIfInBounds_toArray, List.set_cons_zero, List.set_cons_succ, i64_w, i32_w]
                        rfl
                       refine on 9 (fun K hK => ?_)
                       refine Kd.R_append_rows_step (Kd.int .i64) (w0 := w) w.heap.size (by rfl) (.tmp 122) (.tmp 126) 30 3 (.int .i64 0) 8 rfl Tryd.underlying30 info3 rfl (by decide) (by omega) v186 y185 y188 _ _ _ (fun k_ => some k_ ≠ (.slice Ao178 x12_1.length co178 : Value).ownBlock ∧ some k_ ≠ (.slice Ao211 x16_4.length co211 : Value).ownBlock ∧ some k_ ≠ (.slice Ao19 t106.length co19 : Value).ownBlock) (fun _ => False) rfl rfl ?aO ?aR (fun _ _ h => h) (fun _ h => h.elim) ?aF ?aB ?aS ?aL ?_
                       (case aR => exact pC HR191.out)
                       (case aB => exact (pE HB))
                       (case aF => exact (fun k_ hk => ⟨Kd.fresh' (Kd.R_lt (pR HO_12.out)) k_ hk, Kd.fresh' (Kd.R_lt (pR HO_16.out)) k_ hk, Kd.fresh' (Kd.R_lt (pR HO_115001.out)) k_ hk⟩))
                       (case aO => exact (pR HO187.out))
                       (case aS => exact (below_size (pE HB)))
                       (case aL => have := LMc210.out; omega)
                       intro v193 w218 ho hb hg hat
                       rw [← Ny192.out] at ho
                       replace HO_12 := Aside0.mk (Kd.R_after (ok := (fun k_ => some k_ ≠ (.slice Ao211 x16_4.length co211 : Value).ownBlock ∧ some k_ ≠ (.slice Ao19 t106.length co19 : Value).ownBlock)) (pR HO_12.out) hg hat)
                       replace HO_115000 := Aside0.mk (Kd.R_over' (pR HO_115000.out) (Kd.R_typed (pR HO187.out)) (by decide) hg)
                       replace HO_115001 := Aside0.mk (Kd.R_after (ok := (fun k_ => some k_ ≠ (.slice Ao178 x12_1.length co178 : Value).ownBlock ∧ some k_ ≠ (.slice Ao211 x16_4.length co211 : Value).ownBlock)) (pR HO_115001.out) hg hat)
                       replace BK101 := Aside0.mk (blk_grown (g := gb101) (o := .cells #[.slice A0_0 l0_0.length c0_0, .int .u8 a0_1, .int .u8 a0_2, .int .u8 a0_3, .int .u8 a0_4, .int .u8 a0_5, .slice A0_6 l0_6.length c0_6] 26 (0, 0)) (pB BK101.out) hg (Kd.R_ne HO187.out BK101.out (by decide)))
                       replace BK102 := Aside0.mk (blk_grown (g := gb102) (o := .cells #[.int .u8 a2_0, .int .u8 a2_1] 65 (0, 0)) (pB BK102.out) hg (Kd.R_ne HO187.out BK102.out (by decide)))
                       replace BK114 := Aside0.mk (blk_grown (g := gb114) (o := .cells #[.slice Ao17 t103.length co17, .slice Ao19 t106.length co19, .int .i64 t109, .int .i64 t110] 32 (0, 0)) (pB BK114.out) hg (Kd.R_ne HO187.out BK114.out (by decide)))
                       replace HB := Aside0.mk (hb)
                       replace HR184 := Aside0.mk ((show Kd.C (Kd.int .i64) w218 Ao211 y181.length y181 from by rw [Ny181.out]; exact Kd.C_take (m := ((ji203) : Int).toNat) ((Kd.R_reads' (Kd.R_after (ok := (fun k_ => some k_ ≠ (.slice Ao178 x12_1.length co178 : Value).ownBlock ∧ some k_ ≠ (.slice Ao19 t106.length co19 : Value).ownBlock)) (pR HO_16.out) hg hat)).2.2) KL213.out))
                       replace HR191 := Aside0.mk ((show Kd.C (Kd.int .i64) w218 A214 y188.length y188 from by rw [Ny188.out, KA214.out]; exact Kd.C_drop (m := ((ji207) : Int).toNat) (c := co211) ((Kd.R_reads' (Kd.R_after (ok := (fun k_ => some k_ ≠ (.slice Ao178 x12_1.length co178 : Value).ownBlock ∧ some k_ ≠ (.slice Ao19 t106.length co19 : Value).ownBlock)) (pR HO_16.out) hg hat)).2.2) KL214.out ((Kd.R_reads' (Kd.R_after (ok := (fun k_ => some k_ ≠ (.slice Ao178 x12_1.length co178 : Value).ownBlock ∧ some k_ ≠ (.slice Ao19 t106.length co19 : Value).ownBlock)) (pR HO_16.out) hg hat)).2.1)))
                       replace HO_16 := Aside0.mk (Kd.R_after (ok := (fun k_ => some k_ ≠ (.slice Ao178 x12_1.length co178 : Value).ownBlock ∧ some k_ ≠ (.slice Ao19 t106.length co19 : Value).ownBlock)) (pR HO_16.out) hg hat)
                       have HO194 := Aside0.mk (ho)
                       clear HO187 ho hb hg hat
                       refine hK.out _ _ trivial (fun hHeld => ?_)
                       clear hK K
                       refine norm_ (a' := ?_) ?_ ?_
                       rotate_left
                       ·
                        show Act.put _ (some 127) _ = _
                        simp only [Act.put, List.setIfInBounds_toArray, List.set_cons_zero, List.set_cons_succ, i64_w, i32_w]
                        rfl
                       refine pu 10 16 ?_
                       refine done_ (done_of HT_.out (by kernel_rfl)) ?_
                       try go_wp2
                       go_roundg k4
                       case measure => have := HK1.out; have := HJ164.out; have := HK3.out; have := HK4.out; omega
                       case rel => exact ⟨(y192), (false), (wrap64 (x19_4 + 1)), (by first | rfl | (simp; done) | (simp [*]; done)), (by first | rfl | (simp; done) | (simp [*]; done)), H', ⟨by have := HK1.out; have := HJ164.out; have := HK3.out; have := HK4.out; omega⟩, ⟨by (with_reducible repeat (first | apply Kd.R_alloc | apply Kd.R_drewN | apply Kd.R_drew)); exact Kd.R_mono HO_12.out (fun _ hk => ⟨hk.2, hk.1.2⟩)⟩, ⟨by (with_reducible repeat (first | apply Kd.R_alloc | apply Kd.R_drewN | apply Kd.R_drew)); exact Kd.R_mono HO194.out (fun _ hk => ⟨hk.1, hk.2.2⟩)⟩, ⟨by (with_reducible repeat (first | apply Kd.R_alloc | apply Kd.R_drewN | apply Kd.R_drew)); exact HO_115000.out⟩, ⟨by (with_reducible repeat (first | apply Kd.R_alloc | apply Kd.R_drewN | apply Kd.R_drew)); exact Kd.R_mono HO_115001.out (fun _ hk => ⟨hk.1.1, hk.2⟩)⟩, ⟨by (with_reducible repeat (first | refine blk_drewN ?_ _ | refine blk_drew ?_ | refine blk_alloc ?_ _)); exact BK101.out⟩, ⟨by (with_reducible repeat (first | refine blk_drewN ?_ _ | refine blk_drew ?_ | refine blk_alloc ?_ _)); exact BK102.out⟩, ⟨by (with_reducible repeat (first | refine blk_drewN ?_ _ | refine blk_drew ?_ | refine blk_alloc ?_ _)); exact BK114.out⟩, ⟨pE HB⟩⟩
                      ·
                       rw [if_neg c210] at H
                       exact absurd H (by simp)
                     ·
                      rw [if_neg c209] at H
                      exact absurd H (by simp)
                    ·
                     rw [if_neg c208] at H
                     exact absurd H (by simp)
                   ·
                    rw [if_neg c206] at H
                    exact absurd H (by simp)
                  ·
                   rw [if_neg c205] at H
                   exact absurd H (by simp)
                 ·
                  rw [if_neg c204] at H
                  exact absurd H (by simp)
              ·
               rw [if_neg c179] at H
               have c179b0 : decide (x19_4 < (x12_1.length : Int)) = false := decide_eq_false c179
               clear c179
               by_cases c219 : x17_4 = true
               ·
                subst c219
                rw [if_pos rfl] at H
                exact absurd ((Option.some.inj H).trans HRT.out) (by simp)
               ·
                replace c219 := Bool.eq_false_iff.mpr c219
                subst c219
                rw [if_neg (show ¬ (false = true) by decide)] at H
                obtain ⟨t195, A220, H⟩ := bi H
                obtain rfl := Option.some.inj H
                go_wp2_with (first | (go_at_call 15; (with_reducible refine (walkmilllaw05_known.calls t195 _ A220.out (LaidT.below HLd.out (pE HB))).mono ?_); rintro e w221 ⟨rfl, hb⟩; replace HO_12 := rb HO_12 hb; replace HO_16 := rb HO_16 hb; replace HO_115000 := rb HO_115000 hb; replace HO_115001 := rb HO_115001 hb; replace BK101 := bb BK101 hb; replace BK102 := bb BK102 hb; replace BK114 := bb BK114 hb; replace HB := bs HB hb; (try clear hb); (try clear hb2); (try clear hk); (try clear hi)))
                go_ret
                exact ⟨eT, pE HB⟩
end Go.Proofs.YtikmfpjcdcckeaaDoor.P
