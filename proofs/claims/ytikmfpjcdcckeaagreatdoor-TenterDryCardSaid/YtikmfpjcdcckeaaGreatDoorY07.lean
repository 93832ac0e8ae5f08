/- Part 7 of what the law's proof needs: words, walks of functions and plain facts. -/
import Derived.Test.YtikmfpjcdcckeaaGreatDoorY01
import Derived.Test.YtikmfpjcdcckeaaGreatDoorY03
import Derived.Test.YtikmfpjcdcckeaaGreatDoorY04
import Derived.Test.YtikmfpjcdcckeaaGreatDoorY06
set_option linter.unusedVariables false
set_option linter.unusedSimpArgs false
namespace Go.Proofs.YtikmfpjcdcckeaaGreatDoor.P
open Go.RowKit Go.Proofs.YtikmfpjcdcckeaaGreatDoorW.PrintWords Go.Proofs.YtikmfpjcdcckeaaGreatDoorW.PrintLast Go.Proofs.YtikmfpjcdcckeaaGreatDoorW.PrintMore
attribute [local go_sem] max2_int min2_int max_two min_two max_three min_three max_four min_four
mutual
def walkmilllaw05_TenterDry.j0 : Nat → List Int → List (S36) → Int → Int → List (S36) → List (S36) → Int → Int → Bool → List (S43) → List Int → Int → Int → Option (Bool)
 | 0, _, _, _, _, _, _, _, _, _, _, _, _, _ => none
 | k + 1, x1, x8, x9, x10, x11, x13, x15, x16, x115, x115000, x115001, x115002, x115003 => if x115 = true then (some false) else (walkmilllaw05_TenterDry.l0 k x1 x8 x9 x10 x11 x13 x15 x16 0 x115000 x115001 x115002 x115003)
def walkmilllaw05_TenterDry.l0 : Nat → List Int → List (S36) → Int → Int → List (S36) → List (S36) → Int → Int → Int → List (S43) → List Int → Int → Int → Option (Bool)
 | 0, _, _, _, _, _, _, _, _, _, _, _, _, _ => none
 | k + 1, x1, x8, x9, x10, x11, x13, x15, x16, x17, x115000, x115001, x115002, x115003 => if x17 < (x11.length : Int) then (if 0 ≤ x17 then (if x17 < (x115000.length : Int) then ((walkmilllaw05_byteOf.f x1 (wrap64 (20 + x17))).bind fun t160 => ((walkmilllaw05_inside.f ((rd_T43 x115000 x17).f1.f0) ((rd_T43 x115000 x17).f1.f1) t160).bind fun t161 => (walkmilllaw05_TenterDry.l1 k x1 x8 x9 x10 x11 x13 x15 x16 x17 t161 x9 x115000 x115001 x115002 x115003))) else (none)) else (none)) else ((walkmilllaw05_known.f).bind fun t158 => (some t158))
def walkmilllaw05_TenterDry.j3 : Nat → List Int → List (S36) → Int → Int → List (S36) → List (S36) → Int → Int → Int → Int → List (S43) → List Int → Int → Int → Option (Bool)
 | 0, _, _, _, _, _, _, _, _, _, _, _, _, _, _ => none
 | k + 1, x1, x8, x9, x10, x11, x13, x15, x16, x17, x19, x115000, x115001, x115002, x115003 => if 0 ≤ x17 then (if x17 < (x11.length : Int) then (if x19 < ((rd_T36 x11 x17).f0) then (walkmilllaw05_TenterDry.j4 k x1 x8 x9 x10 x11 x13 x15 x16 x17 true x115000 x115001 x115002 x115003) else (if x19 > ((rd_T36 x11 x17).f1) then (walkmilllaw05_TenterDry.j4 k x1 x8 x9 x10 x11 x13 x15 x16 x17 true x115000 x115001 x115002 x115003) else (if x16 = 0 then (if x17 < x15 then (if x17 < (x13.length : Int) then (if ((rd_T36 x13 x17).f1) > x10 then (walkmilllaw05_TenterDry.j4 k x1 x8 x9 x10 x11 x13 x15 x16 x17 true x115000 x115001 x115002 x115003) else (if x17 = x15 then (walkmilllaw05_TenterDry.j4 k x1 x8 x9 x10 x11 x13 x15 x16 x17 (decide (((rd_T36 x13 x17).f1) ≤ x10)) x115000 x115001 x115002 x115003) else (walkmilllaw05_TenterDry.j4 k x1 x8 x9 x10 x11 x13 x15 x16 x17 false x115000 x115001 x115002 x115003))) else (none)) else (if x16 = 6 then (if x17 < (x13.length : Int) then (if ((rd_T36 x13 x17).f1) > x10 then (walkmilllaw05_TenterDry.j4 k x1 x8 x9 x10 x11 x13 x15 x16 x17 true x115000 x115001 x115002 x115003) else (if x17 = x15 then (walkmilllaw05_TenterDry.j4 k x1 x8 x9 x10 x11 x13 x15 x16 x17 (decide (((rd_T36 x13 x17).f1) ≤ x10)) x115000 x115001 x115002 x115003) else (walkmilllaw05_TenterDry.j4 k x1 x8 x9 x10 x11 x13 x15 x16 x17 false x115000 x115001 x115002 x115003))) else (none)) else (if x17 = x15 then (if x17 < (x13.length : Int) then (walkmilllaw05_TenterDry.j4 k x1 x8 x9 x10 x11 x13 x15 x16 x17 (decide (((rd_T36 x13 x17).f1) ≤ x10)) x115000 x115001 x115002 x115003) else (none)) else (walkmilllaw05_TenterDry.j4 k x1 x8 x9 x10 x11 x13 x15 x16 x17 false x115000 x115001 x115002 x115003)))) else (if x16 = 6 then (if x17 < (x13.length : Int) then (if ((rd_T36 x13 x17).f1) > x10 then (walkmilllaw05_TenterDry.j4 k x1 x8 x9 x10 x11 x13 x15 x16 x17 true x115000 x115001 x115002 x115003) else (walkmilllaw05_TenterDry.j4 k x1 x8 x9 x10 x11 x13 x15 x16 x17 false x115000 x115001 x115002 x115003)) else (none)) else (walkmilllaw05_TenterDry.j4 k x1 x8 x9 x10 x11 x13 x15 x16 x17 false x115000 x115001 x115002 x115003))))) else (none)) else (none)
def walkmilllaw05_TenterDry.j4 : Nat → List Int → List (S36) → Int → Int → List (S36) → List (S36) → Int → Int → Int → Bool → List (S43) → List Int → Int → Int → Option (Bool)
 | 0, _, _, _, _, _, _, _, _, _, _, _, _, _, _ => none
 | k + 1, x1, x8, x9, x10, x11, x13, x15, x16, x17, x204, x115000, x115001, x115002, x115003 => if x204 = true then (some false) else ((walkmilllaw05_own.f x115000 x115001 x115002 x115003).bind fun bt171 => ((walkmilllaw05_spans.f x8).bind fun t179 => ((tenter_Late.f k bt171.1 bt171.2.1 bt171.2.2.1 bt171.2.2.2 t179 x17 x10).bind fun bt182 => (if bt182.2 = 0 then (if bt182.1 < 0 then (walkmilllaw05_TenterDry.j5 k x1 x8 x9 x10 x11 x13 x15 x16 x17 bt182.1 bt182.2 true x115000 x115001 x115002 x115003) else (walkmilllaw05_TenterDry.j5 k x1 x8 x9 x10 x11 x13 x15 x16 x17 bt182.1 bt182.2 (decide (bt182.1 > x10)) x115000 x115001 x115002 x115003)) else (if bt182.2 = 9 then (if bt182.1 = 0 then (if bt182.1 < 0 then (walkmilllaw05_TenterDry.j5 k x1 x8 x9 x10 x11 x13 x15 x16 x17 bt182.1 bt182.2 true x115000 x115001 x115002 x115003) else (walkmilllaw05_TenterDry.j5 k x1 x8 x9 x10 x11 x13 x15 x16 x17 bt182.1 bt182.2 (decide (bt182.1 > x10)) x115000 x115001 x115002 x115003)) else (walkmilllaw05_TenterDry.j5 k x1 x8 x9 x10 x11 x13 x15 x16 x17 bt182.1 bt182.2 true x115000 x115001 x115002 x115003)) else (walkmilllaw05_TenterDry.j5 k x1 x8 x9 x10 x11 x13 x15 x16 x17 bt182.1 bt182.2 true x115000 x115001 x115002 x115003))))))
def walkmilllaw05_TenterDry.j5 : Nat → List Int → List (S36) → Int → Int → List (S36) → List (S36) → Int → Int → Int → Int → Int → Bool → List (S43) → List Int → Int → Int → Option (Bool)
 | 0, _, _, _, _, _, _, _, _, _, _, _, _, _, _, _, _ => none
 | k + 1, x1, x8, x9, x10, x11, x13, x15, x16, x17, x20, x21, x233, x115000, x115001, x115002, x115003 => if x233 = true then (some false) else (if x21 = 0 then (walkmilllaw05_TenterDry.j6 k x1 x8 x9 x10 x11 x13 x15 x16 x17 x20 x115000 x115001 x115002 x115003) else (walkmilllaw05_TenterDry.j6 k x1 x8 x9 x10 x11 x13 x15 x16 x17 (-1) x115000 x115001 x115002 x115003))
def walkmilllaw05_TenterDry.j6 : Nat → List Int → List (S36) → Int → Int → List (S36) → List (S36) → Int → Int → Int → Int → List (S43) → List Int → Int → Int → Option (Bool)
 | 0, _, _, _, _, _, _, _, _, _, _, _, _, _, _ => none
 | k + 1, x1, x8, x9, x10, x11, x13, x15, x16, x17, x20, x115000, x115001, x115002, x115003 => walkmilllaw05_TenterDry.l2 k x1 x8 x9 x10 x11 x13 x15 x16 x17 x20 0 x115000 x115001 x115002 x115003
def walkmilllaw05_TenterDry.l2 : Nat → List Int → List (S36) → Int → Int → List (S36) → List (S36) → Int → Int → Int → Int → Int → List (S43) → List Int → Int → Int → Option (Bool)
 | 0, _, _, _, _, _, _, _, _, _, _, _, _, _, _, _ => none
 | k + 1, x1, x8, x9, x10, x11, x13, x15, x16, x17, x20, x22, x115000, x115001, x115002, x115003 => if x22 < 2 then (if (wrap64 (x20 + x22)) < 0 then (walkmilllaw05_TenterDry.j8 k x1 x8 x9 x10 x11 x13 x15 x16 x17 x20 x22 true x115000 x115001 x115002 x115003) else (walkmilllaw05_TenterDry.j8 k x1 x8 x9 x10 x11 x13 x15 x16 x17 x20 x22 (decide ((wrap64 (x20 + x22)) > x10)) x115000 x115001 x115002 x115003)) else (walkmilllaw05_TenterDry.l0 k x1 x8 x9 x10 x11 x13 x15 x16 (wrap64 (x17 + 1)) x115000 x115001 x115002 x115003)
def walkmilllaw05_TenterDry.j8 : Nat → List Int → List (S36) → Int → Int → List (S36) → List (S36) → Int → Int → Int → Int → Int → Bool → List (S43) → List Int → Int → Int → Option (Bool)
 | 0, _, _, _, _, _, _, _, _, _, _, _, _, _, _, _, _ => none
 | k + 1, x1, x8, x9, x10, x11, x13, x15, x16, x17, x20, x22, x250, x115000, x115001, x115002, x115003 => if x250 = true then (walkmilllaw05_TenterDry.l2 k x1 x8 x9 x10 x11 x13 x15 x16 x17 x20 (wrap64 (x22 + 1)) x115000 x115001 x115002 x115003) else ((walkmilllaw05_own.f x115000 x115001 x115002 x115003).bind fun bt184 => ((walkmilllaw05_spans.f x8).bind fun t192 => ((tenter_Dry.f k bt184.1 bt184.2.1 bt184.2.2.1 bt184.2.2.2 t192 (wrap64 (x20 + x22))).bind fun bt195 => (if bt195.2 = 0 then (if (bt195.1.length : Int) = (x11.length : Int) then (if 0 ≤ x17 then (if x17 < (bt195.1.length : Int) then (if ((decide (((rd_T36 bt195.1 x17).f1) ≤ x10)) != (x22 == 0)) = true then (some false) else (walkmilllaw05_TenterDry.l2 k x1 x8 x9 x10 x11 x13 x15 x16 x17 x20 (wrap64 (x22 + 1)) x115000 x115001 x115002 x115003)) else (none)) else (none)) else (some false)) else (some false)))))
def walkmilllaw05_TenterDry.l1 : Nat → List Int → List (S36) → Int → Int → List (S36) → List (S36) → Int → Int → Int → Int → Int → List (S43) → List Int → Int → Int → Option (Bool)
 | 0, _, _, _, _, _, _, _, _, _, _, _, _, _, _, _ => none
 | k + 1, x1, x8, x9, x10, x11, x13, x15, x16, x17, x18, x19, x115000, x115001, x115002, x115003 => if x19 ≤ (x8.length : Int) then ((walkmilllaw05_dried.f k x8 x9 x19 x1).bind fun t162 => (if t162 < x18 then (walkmilllaw05_TenterDry.l1 k x1 x8 x9 x10 x11 x13 x15 x16 x17 x18 (wrap64 (x19 + 1)) x115000 x115001 x115002 x115003) else (walkmilllaw05_TenterDry.j3 k x1 x8 x9 x10 x11 x13 x15 x16 x17 x19 x115000 x115001 x115002 x115003))) else (walkmilllaw05_TenterDry.j3 k x1 x8 x9 x10 x11 x13 x15 x16 x17 x19 x115000 x115001 x115002 x115003)
end
def walkmilllaw05_TenterDry.f (k : Nat) (l0_0 : List (S131)) (a0_1 : Int) (a0_2 : Int) (a0_3 : Int) (a0_4 : Int) (a0_5 : Int) (l0_6 : List (S81)) (l1 : List Int) (a2_0 : Int) (a2_1 : Int) : Option (Bool) := (walkmilllaw05_Green_field.f k l0_0 a0_1 a0_2 a0_3 a0_4 a0_5 l0_6).bind fun bt103 => ((walkmilllaw05_Green_weather.f k l0_0 a0_1 a0_2 a0_3 a0_4 a0_5 l0_6).bind fun t111 => (if (wrap64 ((t111.length : Int) + 1)) = 0 then (none) else ((walkmilllaw05_own.f bt103.1 bt103.2.1 bt103.2.2.1 bt103.2.2.2).bind fun bt115 => ((walkmilllaw05_spans.f t111).bind fun t123 => ((tenter_Dry.f k bt115.1 bt115.2.1 bt115.2.2.1 bt115.2.2.2 t123 (Int.tmod (wrap64 (a2_0)) (wrap64 ((t111.length : Int) + 1)))).bind fun bt126 => ((walkmilllaw05_own.f bt103.1 bt103.2.1 bt103.2.2.1 bt103.2.2.2).bind fun bt130 => ((walkmilllaw05_spans.f t111).bind fun t138 => ((tenter_Dry.f k bt130.1 bt130.2.1 bt130.2.2.1 bt130.2.2.2 t138 0).bind fun bt141 => ((walkmilllaw05_own.f bt103.1 bt103.2.1 bt103.2.2.1 bt103.2.2.2).bind fun bt145 => ((walkmilllaw05_spans.f t111).bind fun t153 => ((tenter_Need.f k bt145.1 bt145.2.1 bt145.2.2.1 bt145.2.2.2 t153 (Int.tmod (wrap64 (a2_1)) (wrap64 ((t111.length : Int) + 1)))).bind fun bt156 => (if bt126.2 = 0 then (if bt141.2 = 0 then (if bt156.2 = 0 then (if (bt126.1.length : Int) = (bt103.1.length : Int) then (if (bt141.1.length : Int) = (bt126.1.length : Int) then (if bt156.1 < 0 then (walkmilllaw05_TenterDry.j0 k l1 t111 (Int.tmod (wrap64 (a2_0)) (wrap64 ((t111.length : Int) + 1))) (Int.tmod (wrap64 (a2_1)) (wrap64 ((t111.length : Int) + 1))) bt126.1 bt141.1 bt156.1 bt156.2 true bt103.1 bt103.2.1 bt103.2.2.1 bt103.2.2.2) else (walkmilllaw05_TenterDry.j0 k l1 t111 (Int.tmod (wrap64 (a2_0)) (wrap64 ((t111.length : Int) + 1))) (Int.tmod (wrap64 (a2_1)) (wrap64 ((t111.length : Int) + 1))) bt126.1 bt141.1 bt156.1 bt156.2 (decide (bt156.1 ≥ (bt126.1.length : Int))) bt103.1 bt103.2.1 bt103.2.2.1 bt103.2.2.2)) else (walkmilllaw05_TenterDry.j0 k l1 t111 (Int.tmod (wrap64 (a2_0)) (wrap64 ((t111.length : Int) + 1))) (Int.tmod (wrap64 (a2_1)) (wrap64 ((t111.length : Int) + 1))) bt126.1 bt141.1 bt156.1 bt156.2 true bt103.1 bt103.2.1 bt103.2.2.1 bt103.2.2.2)) else (walkmilllaw05_TenterDry.j0 k l1 t111 (Int.tmod (wrap64 (a2_0)) (wrap64 ((t111.length : Int) + 1))) (Int.tmod (wrap64 (a2_1)) (wrap64 ((t111.length : Int) + 1))) bt126.1 bt141.1 bt156.1 bt156.2 true bt103.1 bt103.2.1 bt103.2.2.1 bt103.2.2.2)) else (if bt156.2 = 6 then (if bt156.1 = 0 then (if (bt126.1.length : Int) = (bt103.1.length : Int) then (if (bt141.1.length : Int) = (bt126.1.length : Int) then (walkmilllaw05_TenterDry.j0 k l1 t111 (Int.tmod (wrap64 (a2_0)) (wrap64 ((t111.length : Int) + 1))) (Int.tmod (wrap64 (a2_1)) (wrap64 ((t111.length : Int) + 1))) bt126.1 bt141.1 bt156.1 bt156.2 false bt103.1 bt103.2.1 bt103.2.2.1 bt103.2.2.2) else (walkmilllaw05_TenterDry.j0 k l1 t111 (Int.tmod (wrap64 (a2_0)) (wrap64 ((t111.length : Int) + 1))) (Int.tmod (wrap64 (a2_1)) (wrap64 ((t111.length : Int) + 1))) bt126.1 bt141.1 bt156.1 bt156.2 true bt103.1 bt103.2.1 bt103.2.2.1 bt103.2.2.2)) else (walkmilllaw05_TenterDry.j0 k l1 t111 (Int.tmod (wrap64 (a2_0)) (wrap64 ((t111.length : Int) + 1))) (Int.tmod (wrap64 (a2_1)) (wrap64 ((t111.length : Int) + 1))) bt126.1 bt141.1 bt156.1 bt156.2 true bt103.1 bt103.2.1 bt103.2.2.1 bt103.2.2.2)) else (walkmilllaw05_TenterDry.j0 k l1 t111 (Int.tmod (wrap64 (a2_0)) (wrap64 ((t111.length : Int) + 1))) (Int.tmod (wrap64 (a2_1)) (wrap64 ((t111.length : Int) + 1))) bt126.1 bt141.1 bt156.1 bt156.2 true bt103.1 bt103.2.1 bt103.2.2.1 bt103.2.2.2)) else (walkmilllaw05_TenterDry.j0 k l1 t111 (Int.tmod (wrap64 (a2_0)) (wrap64 ((t111.length : Int) + 1))) (Int.tmod (wrap64 (a2_1)) (wrap64 ((t111.length : Int) + 1))) bt126.1 bt141.1 bt156.1 bt156.2 true bt103.1 bt103.2.1 bt103.2.2.1 bt103.2.2.2))) else (walkmilllaw05_TenterDry.j0 k l1 t111 (Int.tmod (wrap64 (a2_0)) (wrap64 ((t111.length : Int) + 1))) (Int.tmod (wrap64 (a2_1)) (wrap64 ((t111.length : Int) + 1))) bt126.1 bt141.1 bt156.1 bt156.2 true bt103.1 bt103.2.1 bt103.2.2.1 bt103.2.2.2)) else (walkmilllaw05_TenterDry.j0 k l1 t111 (Int.tmod (wrap64 (a2_0)) (wrap64 ((t111.length : Int) + 1))) (Int.tmod (wrap64 (a2_1)) (wrap64 ((t111.length : Int) + 1))) bt126.1 bt141.1 bt156.1 bt156.2 true bt103.1 bt103.2.1 bt103.2.2.1 bt103.2.2.2)))))))))))))
theorem walkmilllaw05_TenterDry.mono_l : ∀ k, (∀ y0 y1 y2 y3 y4 y5 y6 y7 y8 y9 y10 y11 y12, LeO (walkmilllaw05_TenterDry.j0 k y0 y1 y2 y3 y4 y5 y6 y7 y8 y9 y10 y11 y12) (walkmilllaw05_TenterDry.j0 (k + 1) y0 y1 y2 y3 y4 y5 y6 y7 y8 y9 y10 y11 y12)) ∧ (∀ y0 y1 y2 y3 y4 y5 y6 y7 y8 y9 y10 y11 y12, LeO (walkmilllaw05_TenterDry.l0 k y0 y1 y2 y3 y4 y5 y6 y7 y8 y9 y10 y11 y12) (walkmilllaw05_TenterDry.l0 (k + 1) y0 y1 y2 y3 y4 y5 y6 y7 y8 y9 y10 y11 y12)) ∧ (∀ y0 y1 y2 y3 y4 y5 y6 y7 y8 y9 y10 y11 y12 y13, LeO (walkmilllaw05_TenterDry.j3 k y0 y1 y2 y3 y4 y5 y6 y7 y8 y9 y10 y11 y12 y13) (walkmilllaw05_TenterDry.j3 (k + 1) y0 y1 y2 y3 y4 y5 y6 y7 y8 y9 y10 y11 y12 y13)) ∧ (∀ y0 y1 y2 y3 y4 y5 y6 y7 y8 y9 y10 y11 y12 y13, LeO (walkmilllaw05_TenterDry.j4 k y0 y1 y2 y3 y4 y5 y6 y7 y8 y9 y10 y11 y12 y13) (walkmilllaw05_TenterDry.j4 (k + 1) y0 y1 y2 y3 y4 y5 y6 y7 y8 y9 y10 y11 y12 y13)) ∧ (∀ y0 y1 y2 y3 y4 y5 y6 y7 y8 y9 y10 y11 y12 y13 y14 y15, LeO (walkmilllaw05_TenterDry.j5 k y0 y1 y2 y3 y4 y5 y6 y7 y8 y9 y10 y11 y12 y13 y14 y15) (walkmilllaw05_TenterDry.j5 (k + 1) y0 y1 y2 y3 y4 y5 y6 y7 y8 y9 y10 y11 y12 y13 y14 y15)) ∧ (∀ y0 y1 y2 y3 y4 y5 y6 y7 y8 y9 y10 y11 y12 y13, LeO (walkmilllaw05_TenterDry.j6 k y0 y1 y2 y3 y4 y5 y6 y7 y8 y9 y10 y11 y12 y13) (walkmilllaw05_TenterDry.j6 (k + 1) y0 y1 y2 y3 y4 y5 y6 y7 y8 y9 y10 y11 y12 y13)) ∧ (∀ y0 y1 y2 y3 y4 y5 y6 y7 y8 y9 y10 y11 y12 y13 y14, LeO (walkmilllaw05_TenterDry.l2 k y0 y1 y2 y3 y4 y5 y6 y7 y8 y9 y10 y11 y12 y13 y14) (walkmilllaw05_TenterDry.l2 (k + 1) y0 y1 y2 y3 y4 y5 y6 y7 y8 y9 y10 y11 y12 y13 y14)) ∧ (∀ y0 y1 y2 y3 y4 y5 y6 y7 y8 y9 y10 y11 y12 y13 y14 y15, LeO (walkmilllaw05_TenterDry.j8 k y0 y1 y2 y3 y4 y5 y6 y7 y8 y9 y10 y11 y12 y13 y14 y15) (walkmilllaw05_TenterDry.j8 (k + 1) y0 y1 y2 y3 y4 y5 y6 y7 y8 y9 y10 y11 y12 y13 y14 y15)) ∧ (∀ y0 y1 y2 y3 y4 y5 y6 y7 y8 y9 y10 y11 y12 y13 y14, LeO (walkmilllaw05_TenterDry.l1 k y0 y1 y2 y3 y4 y5 y6 y7 y8 y9 y10 y11 y12 y13 y14) (walkmilllaw05_TenterDry.l1 (k + 1) y0 y1 y2 y3 y4 y5 y6 y7 y8 y9 y10 y11 y12 y13 y14))
 | 0 => ⟨fun _ _ _ _ _ _ _ _ _ _ _ _ _ r h => by simp [walkmilllaw05_TenterDry.j0] at h, fun _ _ _ _ _ _ _ _ _ _ _ _ _ r h => by simp [walkmilllaw05_TenterDry.l0] at h, fun _ _ _ _ _ _ _ _ _ _ _ _ _ _ r h => by simp [walkmilllaw05_TenterDry.j3] at h, fun _ _ _ _ _ _ _ _ _ _ _ _ _ _ r h => by simp [walkmilllaw05_TenterDry.j4] at h, fun _ _ _ _ _ _ _ _ _ _ _ _ _ _ _ _ r h => by simp [walkmilllaw05_TenterDry.j5] at h, fun _ _ _ _ _ _ _ _ _ _ _ _ _ _ r h => by simp [walkmilllaw05_TenterDry.j6] at h, fun _ _ _ _ _ _ _ _ _ _ _ _ _ _ _ r h => by simp [walkmilllaw05_TenterDry.l2] at h, fun _ _ _ _ _ _ _ _ _ _ _ _ _ _ _ _ r h => by simp [walkmilllaw05_TenterDry.j8] at h, fun _ _ _ _ _ _ _ _ _ _ _ _ _ _ _ r h => by simp [walkmilllaw05_TenterDry.l1] at h⟩
 | k + 1 => by
  obtain ⟨ih0, ih1, ih2, ih3, ih4, ih5, ih6, ih7, ih8⟩ := walkmilllaw05_TenterDry.mono_l k
  refine ⟨?_, ?_, ?_, ?_, ?_, ?_, ?_, ?_, ?_⟩
  ·
   intro y0 y1 y2 y3 y4 y5 y6 y7 y8 y9 y10 y11 y12
   unfold walkmilllaw05_TenterDry.j0
   repeat' first
   | (with_reducible exact ih0 _ _ _ _ _ _ _ _ _ _ _ _ _)
   | (with_reducible exact ih1 _ _ _ _ _ _ _ _ _ _ _ _ _)
   | (with_reducible exact ih2 _ _ _ _ _ _ _ _ _ _ _ _ _ _)
   | (with_reducible exact ih3 _ _ _ _ _ _ _ _ _ _ _ _ _ _)
   | (with_reducible exact ih4 _ _ _ _ _ _ _ _ _ _ _ _ _ _ _ _)
   | (with_reducible exact ih5 _ _ _ _ _ _ _ _ _ _ _ _ _ _)
   | (with_reducible exact ih6 _ _ _ _ _ _ _ _ _ _ _ _ _ _ _)
   | (with_reducible exact ih7 _ _ _ _ _ _ _ _ _ _ _ _ _ _ _ _)
   | (with_reducible exact ih8 _ _ _ _ _ _ _ _ _ _ _ _ _ _ _)
   | (with_reducible exact tenter_Dry.mono _ _ _ _ _ _ _)
   | (with_reducible exact tenter_Late.mono _ _ _ _ _ _ _ _)
   | (with_reducible exact tenter_Need.mono _ _ _ _ _ _ _)
   | (with_reducible exact walkmilllaw05_Green_field.mono _ _ _ _ _ _ _ _)
   | (with_reducible exact walkmilllaw05_Green_weather.mono _ _ _ _ _ _ _ _)
   | (with_reducible exact walkmilllaw05_dried.mono _ _ _ _ _)
   | (with_reducible exact LeO.refl _)
   | (with_reducible exact LeO.none _)
   | (with_reducible refine LeO.ite ?_ ?_)
   | (with_reducible refine LeO.bind ?_ (fun _ => ?_))
   | exact ih0 _ _ _ _ _ _ _ _ _ _ _ _ _
   | exact ih1 _ _ _ _ _ _ _ _ _ _ _ _ _
   | exact ih2 _ _ _ _ _ _ _ _ _ _ _ _ _ _
   | exact ih3 _ _ _ _ _ _ _ _ _ _ _ _ _ _
   | exact ih4 _ _ _ _ _ _ _ _ _ _ _ _ _ _ _ _
   | exact ih5 _ _ _ _ _ _ _ _ _ _ _ _ _ _
   | exact ih6 _ _ _ _ _ _ _ _ _ _ _ _ _ _ _
   | exact ih7 _ _ _ _ _ _ _ _ _ _ _ _ _ _ _ _
   | exact ih8 _ _ _ _ _ _ _ _ _ _ _ _ _ _ _
   | exact tenter_Dry.mono _ _ _ _ _ _ _
   | exact tenter_Late.mono _ _ _ _ _ _ _ _
   | exact tenter_Need.mono _ _ _ _ _ _ _
   | exact walkmilllaw05_Green_field.mono _ _ _ _ _ _ _ _
   | exact walkmilllaw05_Green_weather.mono _ _ _ _ _ _ _ _
   | exact walkmilllaw05_dried.mono _ _ _ _ _
   | exact LeO.none _
   | refine LeO.ite ?_ ?_
   | refine LeO.bind ?_ (fun _ => ?_)
  ·
   intro y0 y1 y2 y3 y4 y5 y6 y7 y8 y9 y10 y11 y12
   unfold walkmilllaw05_TenterDry.l0
   repeat' first
   | (with_reducible exact ih0 _ _ _ _ _ _ _ _ _ _ _ _ _)
   | (with_reducible exact ih1 _ _ _ _ _ _ _ _ _ _ _ _ _)
   | (with_reducible exact ih2 _ _ _ _ _ _ _ _ _ _ _ _ _ _)
   | (with_reducible exact ih3 _ _ _ _ _ _ _ _ _ _ _ _ _ _)
   | (with_reducible exact ih4 _ _ _ _ _ _ _ _ _ _ _ _ _ _ _ _)
   | (with_reducible exact ih5 _ _ _ _ _ _ _ _ _ _ _ _ _ _)
   | (with_reducible exact ih6 _ _ _ _ _ _ _ _ _ _ _ _ _ _ _)
   | (with_reducible exact ih7 _ _ _ _ _ _ _ _ _ _ _ _ _ _ _ _)
   | (with_reducible exact ih8 _ _ _ _ _ _ _ _ _ _ _ _ _ _ _)
   | (with_reducible exact tenter_Dry.mono _ _ _ _ _ _ _)
   | (with_reducible exact tenter_Late.mono _ _ _ _ _ _ _ _)
   | (with_reducible exact tenter_Need.mono _ _ _ _ _ _ _)
   | (with_reducible exact walkmilllaw05_Green_field.mono _ _ _ _ _ _ _ _)
   | (with_reducible exact walkmilllaw05_Green_weather.mono _ _ _ _ _ _ _ _)
   | (with_reducible exact walkmilllaw05_dried.mono _ _ _ _ _)
   | (with_reducible exact LeO.refl _)
   | (with_reducible exact LeO.none _)
   | (with_reducible refine LeO.ite ?_ ?_)
   | (with_reducible refine LeO.bind ?_ (fun _ => ?_))
   | exact ih0 _ _ _ _ _ _ _ _ _ _ _ _ _
   | exact ih1 _ _ _ _ _ _ _ _ _ _ _ _ _
   | exact ih2 _ _ _ _ _ _ _ _ _ _ _ _ _ _
   | exact ih3 _ _ _ _ _ _ _ _ _ _ _ _ _ _
   | exact ih4 _ _ _ _ _ _ _ _ _ _ _ _ _ _ _ _
   | exact ih5 _ _ _ _ _ _ _ _ _ _ _ _ _ _
   | exact ih6 _ _ _ _ _ _ _ _ _ _ _ _ _ _ _
   | exact ih7 _ _ _ _ _ _ _ _ _ _ _ _ _ _ _ _
   | exact ih8 _ _ _ _ _ _ _ _ _ _ _ _ _ _ _
   | exact tenter_Dry.mono _ _ _ _ _ _ _
   | exact tenter_Late.mono _ _ _ _ _ _ _ _
   | exact tenter_Need.mono _ _ _ _ _ _ _
   | exact walkmilllaw05_Green_field.mono _ _ _ _ _ _ _ _
   | exact walkmilllaw05_Green_weather.mono _ _ _ _ _ _ _ _
   | exact walkmilllaw05_dried.mono _ _ _ _ _
   | exact LeO.none _
   | refine LeO.ite ?_ ?_
   | refine LeO.bind ?_ (fun _ => ?_)
  ·
   intro y0 y1 y2 y3 y4 y5 y6 y7 y8 y9 y10 y11 y12 y13
   unfold walkmilllaw05_TenterDry.j3
   repeat' first
   | (with_reducible exact ih0 _ _ _ _ _ _ _ _ _ _ _ _ _)
   | (with_reducible exact ih1 _ _ _ _ _ _ _ _ _ _ _ _ _)
   | (with_reducible exact ih2 _ _ _ _ _ _ _ _ _ _ _ _ _ _)
   | (with_reducible exact ih3 _ _ _ _ _ _ _ _ _ _ _ _ _ _)
   | (with_reducible exact ih4 _ _ _ _ _ _ _ _ _ _ _ _ _ _ _ _)
   | (with_reducible exact ih5 _ _ _ _ _ _ _ _ _ _ _ _ _ _)
   | (with_reducible exact ih6 _ _ _ _ _ _ _ _ _ _ _ _ _ _ _)
   | (with_reducible exact ih7 _ _ _ _ _ _ _ _ _ _ _ _ _ _ _ _)
   | (with_reducible exact ih8 _ _ _ _ _ _ _ _ _ _ _ _ _ _ _)
   | (with_reducible exact tenter_Dry.mono _ _ _ _ _ _ _)
   | (with_reducible exact tenter_Late.mono _ _ _ _ _ _ _ _)
   | (with_reducible exact tenter_Need.mono _ _ _ _ _ _ _)
   | (with_reducible exact walkmilllaw05_Green_field.mono _ _ _ _ _ _ _ _)
   | (with_reducible exact walkmilllaw05_Green_weather.mono _ _ _ _ _ _ _ _)
   | (with_reducible exact walkmilllaw05_dried.mono _ _ _ _ _)
   | (with_reducible exact LeO.refl _)
   | (with_reducible exact LeO.none _)
   | (with_reducible refine LeO.ite ?_ ?_)
   | (with_reducible refine LeO.bind ?_ (fun _ => ?_))
   | exact ih0 _ _ _ _ _ _ _ _ _ _ _ _ _
   | exact ih1 _ _ _ _ _ _ _ _ _ _ _ _ _
   | exact ih2 _ _ _ _ _ _ _ _ _ _ _ _ _ _
   | exact ih3 _ _ _ _ _ _ _ _ _ _ _ _ _ _
   | exact ih4 _ _ _ _ _ _ _ _ _ _ _ _ _ _ _ _
   | exact ih5 _ _ _ _ _ _ _ _ _ _ _ _ _ _
   | exact ih6 _ _ _ _ _ _ _ _ _ _ _ _ _ _ _
   | exact ih7 _ _ _ _ _ _ _ _ _ _ _ _ _ _ _ _
   | exact ih8 _ _ _ _ _ _ _ _ _ _ _ _ _ _ _
   | exact tenter_Dry.mono _ _ _ _ _ _ _
   | exact tenter_Late.mono _ _ _ _ _ _ _ _
   | exact tenter_Need.mono _ _ _ _ _ _ _
   | exact walkmilllaw05_Green_field.mono _ _ _ _ _ _ _ _
   | exact walkmilllaw05_Green_weather.mono _ _ _ _ _ _ _ _
   | exact walkmilllaw05_dried.mono _ _ _ _ _
   | exact LeO.none _
   | refine LeO.ite ?_ ?_
   | refine LeO.bind ?_ (fun _ => ?_)
  ·
   intro y0 y1 y2 y3 y4 y5 y6 y7 y8 y9 y10 y11 y12 y13
   unfold walkmilllaw05_TenterDry.j4
   repeat' first
   | (with_reducible exact ih0 _ _ _ _ _ _ _ _ _ _ _ _ _)
   | (with_reducible exact ih1 _ _ _ _ _ _ _ _ _ _ _ _ _)
   | (with_reducible exact ih2 _ _ _ _ _ _ _ _ _ _ _ _ _ _)
   | (with_reducible exact ih3 _ _ _ _ _ _ _ _ _ _ _ _ _ _)
   | (with_reducible exact ih4 _ _ _ _ _ _ _ _ _ _ _ _ _ _ _ _)
   | (with_reducible exact ih5 _ _ _ _ _ _ _ _ _ _ _ _ _ _)
   | (with_reducible exact ih6 _ _ _ _ _ _ _ _ _ _ _ _ _ _ _)
   | (with_reducible exact ih7 _ _ _ _ _ _ _ _ _ _ _ _ _ _ _ _)
   | (with_reducible exact ih8 _ _ _ _ _ _ _ _ _ _ _ _ _ _ _)
   | (with_reducible exact tenter_Dry.mono _ _ _ _ _ _ _)
   | (with_reducible exact tenter_Late.mono _ _ _ _ _ _ _ _)
   | (with_reducible exact tenter_Need.mono _ _ _ _ _ _ _)
   | (with_reducible exact walkmilllaw05_Green_field.mono _ _ _ _ _ _ _ _)
   | (with_reducible exact walkmilllaw05_Green_weather.mono _ _ _ _ _ _ _ _)
   | (with_reducible exact walkmilllaw05_dried.mono _ _ _ _ _)
   | (with_reducible exact LeO.refl _)
   | (with_reducible exact LeO.none _)
   | (with_reducible refine LeO.ite ?_ ?_)
   | (with_reducible refine LeO.bind ?_ (fun _ => ?_))
   | exact ih0 _ _ _ _ _ _ _ _ _ _ _ _ _
   | exact ih1 _ _ _ _ _ _ _ _ _ _ _ _ _
   | exact ih2 _ _ _ _ _ _ _ _ _ _ _ _ _ _
   | exact ih3 _ _ _ _ _ _ _ _ _ _ _ _ _ _
   | exact ih4 _ _ _ _ _ _ _ _ _ _ _ _ _ _ _ _
   | exact ih5 _ _ _ _ _ _ _ _ _ _ _ _ _ _
   | exact ih6 _ _ _ _ _ _ _ _ _ _ _ _ _ _ _
   | exact ih7 _ _ _ _ _ _ _ _ _ _ _ _ _ _ _ _
   | exact ih8 _ _ _ _ _ _ _ _ _ _ _ _ _ _ _
   | exact tenter_Dry.mono _ _ _ _ _ _ _
   | exact tenter_Late.mono _ _ _ _ _ _ _ _
   | exact tenter_Need.mono _ _ _ _ _ _ _
   | exact walkmilllaw05_Green_field.mono _ _ _ _ _ _ _ _
   | exact walkmilllaw05_Green_weather.mono _ _ _ _ _ _ _ _
   | exact walkmilllaw05_dried.mono _ _ _ _ _
   | exact LeO.none _
   | refine LeO.ite ?_ ?_
   | refine LeO.bind ?_ (fun _ => ?_)
  ·
   intro y0 y1 y2 y3 y4 y5 y6 y7 y8 y9 y10 y11 y12 y13 y14 y15
   unfold walkmilllaw05_TenterDry.j5
   repeat' first
   | (with_reducible exact ih0 _ _ _ _ _ _ _ _ _ _ _ _ _)
   | (with_reducible exact ih1 _ _ _ _ _ _ _ _ _ _ _ _ _)
   | (with_reducible exact ih2 _ _ _ _ _ _ _ _ _ _ _ _ _ _)
   | (with_reducible exact ih3 _ _ _ _ _ _ _ _ _ _ _ _ _ _)
   | (with_reducible exact ih4 _ _ _ _ _ _ _ _ _ _ _ _ _ _ _ _)
   | (with_reducible exact ih5 _ _ _ _ _ _ _ _ _ _ _ _ _ _)
   | (with_reducible exact ih6 _ _ _ _ _ _ _ _ _ _ _ _ _ _ _)
   | (with_reducible exact ih7 _ _ _ _ _ _ _ _ _ _ _ _ _ _ _ _)
   | (with_reducible exact ih8 _ _ _ _ _ _ _ _ _ _ _ _ _ _ _)
   | (with_reducible exact tenter_Dry.mono _ _ _ _ _ _ _)
   | (with_reducible exact tenter_Late.mono _ _ _ _ _ _ _ _)
   | (with_reducible exact tenter_Need.mono _ _ _ _ _ _ _)
   | (with_reducible exact walkmilllaw05_Green_field.mono _ _ _ _ _ _ _ _)
   | (with_reducible exact walkmilllaw05_Green_weather.mono _ _ _ _ _ _ _ _)
   | (with_reducible exact walkmilllaw05_dried.mono _ _ _ _ _)
   | (with_reducible exact LeO.refl _)
   | (with_reducible exact LeO.none _)
   | (with_reducible refine LeO.ite ?_ ?_)
   | (with_reducible refine LeO.bind ?_ (fun _ => ?_))
   | exact ih0 _ _ _ _ _ _ _ _ _ _ _ _ _
   | exact ih1 _ _ _ _ _ _ _ _ _ _ _ _ _
   | exact ih2 _ _ _ _ _ _ _ _ _ _ _ _ _ _
   | exact ih3 _ _ _ _ _ _ _ _ _ _ _ _ _ _
   | exact ih4 _ _ _ _ _ _ _ _ _ _ _ _ _ _ _ _
   | exact ih5 _ _ _ _ _ _ _ _ _ _ _ _ _ _
   | exact ih6 _ _ _ _ _ _ _ _ _ _ _ _ _ _ _
   | exact ih7 _ _ _ _ _ _ _ _ _ _ _ _ _ _ _ _
   | exact ih8 _ _ _ _ _ _ _ _ _ _ _ _ _ _ _
   | exact tenter_Dry.mono _ _ _ _ _ _ _
   | exact tenter_Late.mono _ _ _ _ _ _ _ _
   | exact tenter_Need.mono _ _ _ _ _ _ _
   | exact walkmilllaw05_Green_field.mono _ _ _ _ _ _ _ _
   | exact walkmilllaw05_Green_weather.mono _ _ _ _ _ _ _ _
   | exact walkmilllaw05_dried.mono _ _ _ _ _
   | exact LeO.none _
   | refine LeO.ite ?_ ?_
   | refine LeO.bind ?_ (fun _ => ?_)
  ·
   intro y0 y1 y2 y3 y4 y5 y6 y7 y8 y9 y10 y11 y12 y13
   unfold walkmilllaw05_TenterDry.j6
   repeat' first
   | (with_reducible exact ih0 _ _ _ _ _ _ _ _ _ _ _ _ _)
   | (with_reducible exact ih1 _ _ _ _ _ _ _ _ _ _ _ _ _)
   | (with_reducible exact ih2 _ _ _ _ _ _ _ _ _ _ _ _ _ _)
   | (with_reducible exact ih3 _ _ _ _ _ _ _ _ _ _ _ _ _ _)
   | (with_reducible exact ih4 _ _ _ _ _ _ _ _ _ _ _ _ _ _ _ _)
   | (with_reducible exact ih5 _ _ _ _ _ _ _ _ _ _ _ _ _ _)
   | (with_reducible exact ih6 _ _ _ _ _ _ _ _ _ _ _ _ _ _ _)
   | (with_reducible exact ih7 _ _ _ _ _ _ _ _ _ _ _ _ _ _ _ _)
   | (with_reducible exact ih8 _ _ _ _ _ _ _ _ _ _ _ _ _ _ _)
   | (with_reducible exact tenter_Dry.mono _ _ _ _ _ _ _)
   | (with_reducible exact tenter_Late.mono _ _ _ _ _ _ _ _)
   | (with_reducible exact tenter_Need.mono _ _ _ _ _ _ _)
   | (with_reducible exact walkmilllaw05_Green_field.mono _ _ _ _ _ _ _ _)
   | (with_reducible exact walkmilllaw05_Green_weather.mono _ _ _ _ _ _ _ _)
   | (with_reducible exact walkmilllaw05_dried.mono _ _ _ _ _)
   | (with_reducible exact LeO.refl _)
   | (with_reducible exact LeO.none _)
   | (with_reducible refine LeO.ite ?_ ?_)
   | (with_reducible refine LeO.bind ?_ (fun _ => ?_))
   | exact ih0 _ _ _ _ _ _ _ _ _ _ _ _ _
   | exact ih1 _ _ _ _ _ _ _ _ _ _ _ _ _
   | exact ih2 _ _ _ _ _ _ _ _ _ _ _ _ _ _
   | exact ih3 _ _ _ _ _ _ _ _ _ _ _ _ _ _
   | exact ih4 _ _ _ _ _ _ _ _ _ _ _ _ _ _ _ _
   | exact ih5 _ _ _ _ _ _ _ _ _ _ _ _ _ _
   | exact ih6 _ _ _ _ _ _ _ _ _ _ _ _ _ _ _
   | exact ih7 _ _ _ _ _ _ _ _ _ _ _ _ _ _ _ _
   | exact ih8 _ _ _ _ _ _ _ _ _ _ _ _ _ _ _
   | exact tenter_Dry.mono _ _ _ _ _ _ _
   | exact tenter_Late.mono _ _ _ _ _ _ _ _
   | exact tenter_Need.mono _ _ _ _ _ _ _
   | exact walkmilllaw05_Green_field.mono _ _ _ _ _ _ _ _
   | exact walkmilllaw05_Green_weather.mono _ _ _ _ _ _ _ _
   | exact walkmilllaw05_dried.mono _ _ _ _ _
   | exact LeO.none _
   | refine LeO.ite ?_ ?_
   | refine LeO.bind ?_ (fun _ => ?_)
  ·
   intro y0 y1 y2 y3 y4 y5 y6 y7 y8 y9 y10 y11 y12 y13 y14
   unfold walkmilllaw05_TenterDry.l2
   repeat' first
   | (with_reducible exact ih0 _ _ _ _ _ _ _ _ _ _ _ _ _)
   | (with_reducible exact ih1 _ _ _ _ _ _ _ _ _ _ _ _ _)
   | (with_reducible exact ih2 _ _ _ _ _ _ _ _ _ _ _ _ _ _)
   | (with_reducible exact ih3 _ _ _ _ _ _ _ _ _ _ _ _ _ _)
   | (with_reducible exact ih4 _ _ _ _ _ _ _ _ _ _ _ _ _ _ _ _)
   | (with_reducible exact ih5 _ _ _ _ _ _ _ _ _ _ _ _ _ _)
   | (with_reducible exact ih6 _ _ _ _ _ _ _ _ _ _ _ _ _ _ _)
   | (with_reducible exact ih7 _ _ _ _ _ _ _ _ _ _ _ _ _ _ _ _)
   | (with_reducible exact ih8 _ _ _ _ _ _ _ _ _ _ _ _ _ _ _)
   | (with_reducible exact tenter_Dry.mono _ _ _ _ _ _ _)
   | (with_reducible exact tenter_Late.mono _ _ _ _ _ _ _ _)
   | (with_reducible exact tenter_Need.mono _ _ _ _ _ _ _)
   | (with_reducible exact walkmilllaw05_Green_field.mono _ _ _ _ _ _ _ _)
   | (with_reducible exact walkmilllaw05_Green_weather.mono _ _ _ _ _ _ _ _)
   | (with_reducible exact walkmilllaw05_dried.mono _ _ _ _ _)
   | (with_reducible exact LeO.refl _)
   | (with_reducible exact LeO.none _)
   | (with_reducible refine LeO.ite ?_ ?_)
   | (with_reducible refine LeO.bind ?_ (fun _ => ?_))
   | exact ih0 _ _ _ _ _ _ _ _ _ _ _ _ _
   | exact ih1 _ _ _ _ _ _ _ _ _ _ _ _ _
   | exact ih2 _ _ _ _ _ _ _ _ _ _ _ _ _ _
   | exact ih3 _ _ _ _ _ _ _ _ _ _ _ _ _ _
   | exact ih4 _ _ _ _ _ _ _ _ _ _ _ _ _ _ _ _
   | exact ih5 _ _ _ _ _ _ _ _ _ _ _ _ _ _
   | exact ih6 _ _ _ _ _ _ _ _ _ _ _ _ _ _ _
   | exact ih7 _ _ _ _ _ _ _ _ _ _ _ _ _ _ _ _
   | exact ih8 _ _ _ _ _ _ _ _ _ _ _ _ _ _ _
   | exact tenter_Dry.mono _ _ _ _ _ _ _
   | exact tenter_Late.mono _ _ _ _ _ _ _ _
   | exact tenter_Need.mono _ _ _ _ _ _ _
   | exact walkmilllaw05_Green_field.mono _ _ _ _ _ _ _ _
   | exact walkmilllaw05_Green_weather.mono _ _ _ _ _ _ _ _
   | exact walkmilllaw05_dried.mono _ _ _ _ _
   | exact LeO.none _
   | refine LeO.ite ?_ ?_
   | refine LeO.bind ?_ (fun _ => ?_)
  ·
   intro y0 y1 y2 y3 y4 y5 y6 y7 y8 y9 y10 y11 y12 y13 y14 y15
   unfold walkmilllaw05_TenterDry.j8
   repeat' first
   | (with_reducible exact ih0 _ _ _ _ _ _ _ _ _ _ _ _ _)
   | (with_reducible exact ih1 _ _ _ _ _ _ _ _ _ _ _ _ _)
   | (with_reducible exact ih2 _ _ _ _ _ _ _ _ _ _ _ _ _ _)
   | (with_reducible exact ih3 _ _ _ _ _ _ _ _ _ _ _ _ _ _)
   | (with_reducible exact ih4 _ _ _ _ _ _ _ _ _ _ _ _ _ _ _ _)
   | (with_reducible exact ih5 _ _ _ _ _ _ _ _ _ _ _ _ _ _)
   | (with_reducible exact ih6 _ _ _ _ _ _ _ _ _ _ _ _ _ _ _)
   | (with_reducible exact ih7 _ _ _ _ _ _ _ _ _ _ _ _ _ _ _ _)
   | (with_reducible exact ih8 _ _ _ _ _ _ _ _ _ _ _ _ _ _ _)
   | (with_reducible exact tenter_Dry.mono _ _ _ _ _ _ _)
   | (with_reducible exact tenter_Late.mono _ _ _ _ _ _ _ _)
   | (with_reducible exact tenter_Need.mono _ _ _ _ _ _ _)
   | (with_reducible exact walkmilllaw05_Green_field.mono _ _ _ _ _ _ _ _)
   | (with_reducible exact walkmilllaw05_Green_weather.mono _ _ _ _ _ _ _ _)
   | (with_reducible exact walkmilllaw05_dried.mono _ _ _ _ _)
   | (with_reducible exact LeO.refl _)
   | (with_reducible exact LeO.none _)
   | (with_reducible refine LeO.ite ?_ ?_)
   | (with_reducible refine LeO.bind ?_ (fun _ => ?_))
   | exact ih0 _ _ _ _ _ _ _ _ _ _ _ _ _
   | exact ih1 _ _ _ _ _ _ _ _ _ _ _ _ _
   | exact ih2 _ _ _ _ _ _ _ _ _ _ _ _ _ _
   | exact ih3 _ _ _ _ _ _ _ _ _ _ _ _ _ _
   | exact ih4 _ _ _ _ _ _ _ _ _ _ _ _ _ _ _ _
   | exact ih5 _ _ _ _ _ _ _ _ _ _ _ _ _ _
   | exact ih6 _ _ _ _ _ _ _ _ _ _ _ _ _ _ _
   | exact ih7 _ _ _ _ _ _ _ _ _ _ _ _ _ _ _ _
   | exact ih8 _ _ _ _ _ _ _ _ _ _ _ _ _ _ _
   | exact tenter_Dry.mono _ _ _ _ _ _ _
   | exact tenter_Late.mono _ _ _ _ _ _ _ _
   | exact tenter_Need.mono _ _ _ _ _ _ _
   | exact walkmilllaw05_Green_field.mono _ _ _ _ _ _ _ _
   | exact walkmilllaw05_Green_weather.mono _ _ _ _ _ _ _ _
   | exact walkmilllaw05_dried.mono _ _ _ _ _
   | exact LeO.none _
   | refine LeO.ite ?_ ?_
   | refine LeO.bind ?_ (fun _ => ?_)
  ·
   intro y0 y1 y2 y3 y4 y5 y6 y7 y8 y9 y10 y11 y12 y13 y14
   unfold walkmilllaw05_TenterDry.l1
   repeat' first
   | (with_reducible exact ih0 _ _ _ _ _ _ _ _ _ _ _ _ _)
   | (with_reducible exact ih1 _ _ _ _ _ _ _ _ _ _ _ _ _)
   | (with_reducible exact ih2 _ _ _ _ _ _ _ _ _ _ _ _ _ _)
   | (with_reducible exact ih3 _ _ _ _ _ _ _ _ _ _ _ _ _ _)
   | (with_reducible exact ih4 _ _ _ _ _ _ _ _ _ _ _ _ _ _ _ _)
   | (with_reducible exact ih5 _ _ _ _ _ _ _ _ _ _ _ _ _ _)
   | (with_reducible exact ih6 _ _ _ _ _ _ _ _ _ _ _ _ _ _ _)
   | (with_reducible exact ih7 _ _ _ _ _ _ _ _ _ _ _ _ _ _ _ _)
   | (with_reducible exact ih8 _ _ _ _ _ _ _ _ _ _ _ _ _ _ _)
   | (with_reducible exact tenter_Dry.mono _ _ _ _ _ _ _)
   | (with_reducible exact tenter_Late.mono _ _ _ _ _ _ _ _)
   | (with_reducible exact tenter_Need.mono _ _ _ _ _ _ _)
   | (with_reducible exact walkmilllaw05_Green_field.mono _ _ _ _ _ _ _ _)
   | (with_reducible exact walkmilllaw05_Green_weather.mono _ _ _ _ _ _ _ _)
   | (with_reducible exact walkmilllaw05_dried.mono _ _ _ _ _)
   | (with_reducible exact LeO.refl _)
   | (with_reducible exact LeO.none _)
   | (with_reducible refine LeO.ite ?_ ?_)
   | (with_reducible refine LeO.bind ?_ (fun _ => ?_))
   | exact ih0 _ _ _ _ _ _ _ _ _ _ _ _ _
   | exact ih1 _ _ _ _ _ _ _ _ _ _ _ _ _
   | exact ih2 _ _ _ _ _ _ _ _ _ _ _ _ _ _
   | exact ih3 _ _ _ _ _ _ _ _ _ _ _ _ _ _
   | exact ih4 _ _ _ _ _ _ _ _ _ _ _ _ _ _ _ _
   | exact ih5 _ _ _ _ _ _ _ _ _ _ _ _ _ _
   | exact ih6 _ _ _ _ _ _ _ _ _ _ _ _ _ _ _
   | exact ih7 _ _ _ _ _ _ _ _ _ _ _ _ _ _ _ _
   | exact ih8 _ _ _ _ _ _ _ _ _ _ _ _ _ _ _
   | exact tenter_Dry.mono _ _ _ _ _ _ _
   | exact tenter_Late.mono _ _ _ _ _ _ _ _
   | exact tenter_Need.mono _ _ _ _ _ _ _
   | exact walkmilllaw05_Green_field.mono _ _ _ _ _ _ _ _
   | exact walkmilllaw05_Green_weather.mono _ _ _ _ _ _ _ _
   | exact walkmilllaw05_dried.mono _ _ _ _ _
   | exact LeO.none _
   | refine LeO.ite ?_ ?_
   | refine LeO.bind ?_ (fun _ => ?_)
theorem walkmilllaw05_TenterDry.dead_j0 : ∀ k y0 y1 y2 y3 y4 y5 y6 y7 y9 y10 y11 y12 r, walkmilllaw05_TenterDry.j0 k y0 y1 y2 y3 y4 y5 y6 y7 true y9 y10 y11 y12 = some r → r = true → False := by
 intro k y0 y1 y2 y3 y4 y5 y6 y7 y9 y10 y11 y12 r h hr
 cases k with
 | zero => simp [walkmilllaw05_TenterDry.j0] at h
 | succ k => exact absurd ((Option.some.inj (show (some false : Option Bool) = some r from h)).trans hr) (by simp)
theorem walkmilllaw05_TenterDry.dead_j4 : ∀ k y0 y1 y2 y3 y4 y5 y6 y7 y8 y10 y11 y12 y13 r, walkmilllaw05_TenterDry.j4 k y0 y1 y2 y3 y4 y5 y6 y7 y8 true y10 y11 y12 y13 = some r → r = true → False := by
 intro k y0 y1 y2 y3 y4 y5 y6 y7 y8 y10 y11 y12 y13 r h hr
 cases k with
 | zero => simp [walkmilllaw05_TenterDry.j4] at h
 | succ k => exact absurd ((Option.some.inj (show (some false : Option Bool) = some r from h)).trans hr) (by simp)
theorem walkmilllaw05_TenterDry.dead_j5 : ∀ k y0 y1 y2 y3 y4 y5 y6 y7 y8 y9 y10 y12 y13 y14 y15 r, walkmilllaw05_TenterDry.j5 k y0 y1 y2 y3 y4 y5 y6 y7 y8 y9 y10 true y12 y13 y14 y15 = some r → r = true → False := by
 intro k y0 y1 y2 y3 y4 y5 y6 y7 y8 y9 y10 y12 y13 y14 y15 r h hr
 cases k with
 | zero => simp [walkmilllaw05_TenterDry.j5] at h
 | succ k => exact absurd ((Option.some.inj (show (some false : Option Bool) = some r from h)).trans hr) (by simp)
theorem walkmilllaw05_TenterDry.mono : ∀ a0 a1 a2 a3 a4 a5 a6 a7 a8 a9 k, LeO (walkmilllaw05_TenterDry.f k a0 a1 a2 a3 a4 a5 a6 a7 a8 a9) (walkmilllaw05_TenterDry.f (k + 1) a0 a1 a2 a3 a4 a5 a6 a7 a8 a9) := by
 intro a0 a1 a2 a3 a4 a5 a6 a7 a8 a9 k
 obtain ⟨ih0, ih1, ih2, ih3, ih4, ih5, ih6, ih7, ih8⟩ := walkmilllaw05_TenterDry.mono_l k
 unfold walkmilllaw05_TenterDry.f
 repeat' first
   | (with_reducible exact ih0 _ _ _ _ _ _ _ _ _ _ _ _ _)
   | (with_reducible exact ih1 _ _ _ _ _ _ _ _ _ _ _ _ _)
   | (with_reducible exact ih2 _ _ _ _ _ _ _ _ _ _ _ _ _ _)
   | (with_reducible exact ih3 _ _ _ _ _ _ _ _ _ _ _ _ _ _)
   | (with_reducible exact ih4 _ _ _ _ _ _ _ _ _ _ _ _ _ _ _ _)
   | (with_reducible exact ih5 _ _ _ _ _ _ _ _ _ _ _ _ _ _)
   | (with_reducible exact ih6 _ _ _ _ _ _ _ _ _ _ _ _ _ _ _)
   | (with_reducible exact ih7 _ _ _ _ _ _ _ _ _ _ _ _ _ _ _ _)
   | (with_reducible exact ih8 _ _ _ _ _ _ _ _ _ _ _ _ _ _ _)
   | (with_reducible exact tenter_Dry.mono _ _ _ _ _ _ _)
   | (with_reducible exact tenter_Late.mono _ _ _ _ _ _ _ _)
   | (with_reducible exact tenter_Need.mono _ _ _ _ _ _ _)
   | (with_reducible exact walkmilllaw05_Green_field.mono _ _ _ _ _ _ _ _)
   | (with_reducible exact walkmilllaw05_Green_weather.mono _ _ _ _ _ _ _ _)
   | (with_reducible exact walkmilllaw05_dried.mono _ _ _ _ _)
   | (with_reducible exact LeO.refl _)
   | (with_reducible exact LeO.none _)
   | (with_reducible refine LeO.ite ?_ ?_)
   | (with_reducible refine LeO.bind ?_ (fun _ => ?_))
   | exact ih0 _ _ _ _ _ _ _ _ _ _ _ _ _
   | exact ih1 _ _ _ _ _ _ _ _ _ _ _ _ _
   | exact ih2 _ _ _ _ _ _ _ _ _ _ _ _ _ _
   | exact ih3 _ _ _ _ _ _ _ _ _ _ _ _ _ _
   | exact ih4 _ _ _ _ _ _ _ _ _ _ _ _ _ _ _ _
   | exact ih5 _ _ _ _ _ _ _ _ _ _ _ _ _ _
   | exact ih6 _ _ _ _ _ _ _ _ _ _ _ _ _ _ _
   | exact ih7 _ _ _ _ _ _ _ _ _ _ _ _ _ _ _ _
   | exact ih8 _ _ _ _ _ _ _ _ _ _ _ _ _ _ _
   | exact tenter_Dry.mono _ _ _ _ _ _ _
   | exact tenter_Late.mono _ _ _ _ _ _ _ _
   | exact tenter_Need.mono _ _ _ _ _ _ _
   | exact walkmilllaw05_Green_field.mono _ _ _ _ _ _ _ _
   | exact walkmilllaw05_Green_weather.mono _ _ _ _ _ _ _ _
   | exact walkmilllaw05_dried.mono _ _ _ _ _
   | exact LeO.none _
   | refine LeO.ite ?_ ?_
   | refine LeO.bind ?_ (fun _ => ?_)
def walkmilllaw05_TenterDry.T2 : Bool × List (List Nat × List Nat) := (true, [([], []), ([0], [0]), ([1], [1]), ([], []), ([3], [3]), ([4], [4]), ([2, 5], [2, 5]), ([], []), ([7], [7]), ([8], [8]), ([], []), ([10], [10]), ([11], [11]), ([9, 12], [9, 12]), ([6, 0, 1, 2, 3, 4, 5, 6], [6]), ([13, 14, 0, 1, 2, 3, 4, 5, 6, 7, 8, 9, 10, 11, 12, 13, 14], [13])])
def walkmilllaw05_TenterDry.B2 : List Nat := [0, 1, 3, 0, 8, 24, 63, 0, 128, 384, 0, 1024, 3072, 8064, 127, 32767]
theorem walkmilllaw05_TenterDry.tab2 : rtab .any (opsOf Tryz.f11 2) = walkmilllaw05_TenterDry.T2 := by kernel_rfl
theorem walkmilllaw05_TenterDry.bits2 : waitsOk walkmilllaw05_TenterDry.T2.2 walkmilllaw05_TenterDry.B2 = true := by kernel_rfl
def walkmilllaw05_TenterDry.T11 : Bool × List (List Nat × List Nat) := (true, [([], []), ([0], [0]), ([], []), ([1, 2], [1, 2]), ([3], [3]), ([4], [4]), ([], []), ([], []), ([7], [7]), ([6, 8], [6, 8]), ([5, 9, 9], [5, 9]), ([], []), ([10, 10, 0, 1, 2, 3, 4, 5, 6, 7, 8, 9, 10], [10]), ([11, 12, 0, 1, 2, 3, 4, 5, 6, 7, 8, 9, 10, 11, 12], [11])])
def walkmilllaw05_TenterDry.B11 : List Nat := [0, 1, 0, 7, 15, 31, 0, 0, 128, 448, 1023, 0, 2047, 8191]
theorem walkmilllaw05_TenterDry.tab11 : rtab .any (opsOf Tryz.f11 11) = walkmilllaw05_TenterDry.T11 := by kernel_rfl
theorem walkmilllaw05_TenterDry.bits11 : waitsOk walkmilllaw05_TenterDry.T11.2 walkmilllaw05_TenterDry.B11 = true := by kernel_rfl
set_option maxHeartbeats 8000000 in
set_option maxRecDepth 100000 in
theorem walkmilllaw05_TenterDry.calls_true (k : Nat) (A0_0 : Option Addr) (c0_0 : Nat) (l0_0 : List (S131)) (a0_1 : Int) (a0_2 : Int) (a0_3 : Int) (a0_4 : Int) (a0_5 : Int) (A0_6 : Option Addr) (c0_6 : Nat) (l0_6 : List (S81)) (A1 : Option Addr) (c1 : Nat) (l1 : List Int) (a2_0 : Int) (a2_1 : Int) (r : Bool) (w : World) (hr0_0 : Kd.C k131 w A0_0 l0_0.length l0_0) (hc0_0 : l0_0.length ≤ c0_0) (hr0_6 : Kd.C k81 w A0_6 l0_6.length l0_6) (hc0_6 : l0_6.length ≤ c0_6) (hr1 : Kd.C (Kd.int .u8) w A1 l1.length l1) (hc1 : l1.length ≤ c1) (hrt : r = true) (hLd : LaidT w) (h : walkmilllaw05_TenterDry.f k l0_0 a0_1 a0_2 a0_3 a0_4 a0_5 l0_6 l1 a2_0 a2_1 = some r) :
  Calls Tryz.prog 11 #[.agg #[.slice A0_0 l0_0.length c0_0, .int .u8 a0_1, .int .u8 a0_2, .int .u8 a0_3, .int .u8 a0_4, .int .u8 a0_5, .slice A0_6 l0_6.length c0_6], .slice A1 l1.length c1, .agg #[.int .u8 a2_0, .int .u8 a2_1]] w fun e w' => e = .returned (.bool r) ∧ Below w.heap.size w w' := by
 have hu79 := Tryz.underlying79
 have hu81 := Tryz.underlying81
 have hu25 := Tryz.underlying25
 have hu36 := Tryz.underlying36
 have HRT := Aside0.mk hrt
 clear hrt
 have HR0_0 := Aside0.mk hr0_0
 have HC0_0 := Aside0.mk hc0_0
 clear hr0_0 hc0_0
 have HR0_6 := Aside0.mk hr0_6
 have HC0_6 := Aside0.mk hc0_6
 clear hr0_6 hc0_6
 have HR1 := Aside0.mk hr1
 have HC1 := Aside0.mk hc1
 clear hr1 hc1
 have HLd := Aside0.mk hLd
 clear hLd
 have HB := Aside0.mk (Below.refl w.heap.size w)
 have H : ((walkmilllaw05_Green_field.f k l0_0 a0_1 a0_2 a0_3 a0_4 a0_5 l0_6).bind fun bt103 => ((walkmilllaw05_Green_weather.f k l0_0 a0_1 a0_2 a0_3 a0_4 a0_5 l0_6).bind fun t111 => (if (wrap64 ((t111.length : Int) + 1)) = 0 then (none) else ((walkmilllaw05_own.f bt103.1 bt103.2.1 bt103.2.2.1 bt103.2.2.2).bind fun bt115 => ((walkmilllaw05_spans.f t111).bind fun t123 => ((tenter_Dry.f k bt115.1 bt115.2.1 bt115.2.2.1 bt115.2.2.2 t123 (Int.tmod (wrap64 (a2_0)) (wrap64 ((t111.length : Int) + 1)))).bind fun bt126 => ((walkmilllaw05_own.f bt103.1 bt103.2.1 bt103.2.2.1 bt103.2.2.2).bind fun bt130 => ((walkmilllaw05_spans.f t111).bind fun t138 => ((tenter_Dry.f k bt130.1 bt130.2.1 bt130.2.2.1 bt130.2.2.2 t138 0).bind fun bt141 => ((walkmilllaw05_own.f bt103.1 bt103.2.1 bt103.2.2.1 bt103.2.2.2).bind fun bt145 => ((walkmilllaw05_spans.f t111).bind fun t153 => ((tenter_Need.f k bt145.1 bt145.2.1 bt145.2.2.1 bt145.2.2.2 t153 (Int.tmod (wrap64 (a2_1)) (wrap64 ((t111.length : Int) + 1)))).bind fun bt156 => (if bt126.2 = 0 then (if bt141.2 = 0 then (if bt156.2 = 0 then (if (bt126.1.length : Int) = (bt103.1.length : Int) then (if (bt141.1.length : Int) = (bt126.1.length : Int) then (if bt156.1 < 0 then (walkmilllaw05_TenterDry.j0 k l1 t111 (Int.tmod (wrap64 (a2_0)) (wrap64 ((t111.length : Int) + 1))) (Int.tmod (wrap64 (a2_1)) (wrap64 ((t111.length : Int) + 1))) bt126.1 bt141.1 bt156.1 bt156.2 true bt103.1 bt103.2.1 bt103.2.2.1 bt103.2.2.2) else (walkmilllaw05_TenterDry.j0 k l1 t111 (Int.tmod (wrap64 (a2_0)) (wrap64 ((t111.length : Int) + 1))) (Int.tmod (wrap64 (a2_1)) (wrap64 ((t111.length : Int) + 1))) bt126.1 bt141.1 bt156.1 bt156.2 (decide (bt156.1 ≥ (bt126.1.length : Int))) bt103.1 bt103.2.1 bt103.2.2.1 bt103.2.2.2)) else (walkmilllaw05_TenterDry.j0 k l1 t111 (Int.tmod (wrap64 (a2_0)) (wrap64 ((t111.length : Int) + 1))) (Int.tmod (wrap64 (a2_1)) (wrap64 ((t111.length : Int) + 1))) bt126.1 bt141.1 bt156.1 bt156.2 true bt103.1 bt103.2.1 bt103.2.2.1 bt103.2.2.2)) else (walkmilllaw05_TenterDry.j0 k l1 t111 (Int.tmod (wrap64 (a2_0)) (wrap64 ((t111.length : Int) + 1))) (Int.tmod (wrap64 (a2_1)) (wrap64 ((t111.length : Int) + 1))) bt126.1 bt141.1 bt156.1 bt156.2 true bt103.1 bt103.2.1 bt103.2.2.1 bt103.2.2.2)) else (if bt156.2 = 6 then (if bt156.1 = 0 then (if (bt126.1.length : Int) = (bt103.1.length : Int) then (if (bt141.1.length : Int) = (bt126.1.length : Int) then (walkmilllaw05_TenterDry.j0 k l1 t111 (Int.tmod (wrap64 (a2_0)) (wrap64 ((t111.length : Int) + 1))) (Int.tmod (wrap64 (a2_1)) (wrap64 ((t111.length : Int) + 1))) bt126.1 bt141.1 bt156.1 bt156.2 false bt103.1 bt103.2.1 bt103.2.2.1 bt103.2.2.2) else (walkmilllaw05_TenterDry.j0 k l1 t111 (Int.tmod (wrap64 (a2_0)) (wrap64 ((t111.length : Int) + 1))) (Int.tmod (wrap64 (a2_1)) (wrap64 ((t111.length : Int) + 1))) bt126.1 bt141.1 bt156.1 bt156.2 true bt103.1 bt103.2.1 bt103.2.2.1 bt103.2.2.2)) else (walkmilllaw05_TenterDry.j0 k l1 t111 (Int.tmod (wrap64 (a2_0)) (wrap64 ((t111.length : Int) + 1))) (Int.tmod (wrap64 (a2_1)) (wrap64 ((t111.length : Int) + 1))) bt126.1 bt141.1 bt156.1 bt156.2 true bt103.1 bt103.2.1 bt103.2.2.1 bt103.2.2.2)) else (walkmilllaw05_TenterDry.j0 k l1 t111 (Int.tmod (wrap64 (a2_0)) (wrap64 ((t111.length : Int) + 1))) (Int.tmod (wrap64 (a2_1)) (wrap64 ((t111.length : Int) + 1))) bt126.1 bt141.1 bt156.1 bt156.2 true bt103.1 bt103.2.1 bt103.2.2.1 bt103.2.2.2)) else (walkmilllaw05_TenterDry.j0 k l1 t111 (Int.tmod (wrap64 (a2_0)) (wrap64 ((t111.length : Int) + 1))) (Int.tmod (wrap64 (a2_1)) (wrap64 ((t111.length : Int) + 1))) bt126.1 bt141.1 bt156.1 bt156.2 true bt103.1 bt103.2.1 bt103.2.2.1 bt103.2.2.2))) else (walkmilllaw05_TenterDry.j0 k l1 t111 (Int.tmod (wrap64 (a2_0)) (wrap64 ((t111.length : Int) + 1))) (Int.tmod (wrap64 (a2_1)) (wrap64 ((t111.length : Int) + 1))) bt126.1 bt141.1 bt156.1 bt156.2 true bt103.1 bt103.2.1 bt103.2.2.1 bt103.2.2.2)) else (walkmilllaw05_TenterDry.j0 k l1 t111 (Int.tmod (wrap64 (a2_0)) (wrap64 ((t111.length : Int) + 1))) (Int.tmod (wrap64 (a2_1)) (wrap64 ((t111.length : Int) + 1))) bt126.1 bt141.1 bt156.1 bt156.2 true bt103.1 bt103.2.1 bt103.2.2.1 bt103.2.2.2)))))))))))))) = some r := h
 clear h
 obtain ⟨⟨t103, t106, t109, t110⟩, A4, H⟩ := bi H
 obtain ⟨t111, A5, H⟩ := bi H
 by_cases c6 : (wrap64 ((t111.length : Int) + 1)) = 0
 ·
  rw [if_pos c6] at H
  exact absurd H (by simp)
 ·
  rw [if_neg c6] at H
  have c6b0 : ((wrap64 ((t111.length : Int) + 1)) == 0) = false := beq_eq_false_iff_ne.mpr c6
  have c6b1 : ((wrap64 ((t111.length : Int) + 1)) != 0) = true := bne_iff_ne.mpr c6
  obtain ⟨⟨t115, t118, t121, t122⟩, A7, H⟩ := bi H
  obtain ⟨t123, A8, H⟩ := bi H
  obtain ⟨⟨t126, t129⟩, A9, H⟩ := bi H
  obtain ⟨⟨t130, t133, t136, t137⟩, A10, H⟩ := bi H
  obtain ⟨t138, A11, H⟩ := bi H
  obtain ⟨⟨t141, t144⟩, A12, H⟩ := bi H
  obtain ⟨⟨t145, t148, t151, t152⟩, A13, H⟩ := bi H
  obtain ⟨t153, A14, H⟩ := bi H
  obtain ⟨⟨t156, t157⟩, A15, H⟩ := bi H
  have HC16 := Aside0.mk H
  clear H
  go_enter Tryz.func11, Tryz.ntmps11
  try go_wp2_with (first | ((with_reducible refine gate_dst (N := 3) rfl ?_); (try (refine gate_guard (by rfl) ?_; dsimp only)); refine bx 3 #[.slice A0_0 l0_0.length c0_0, .int .u8 a0_1, .int .u8 a0_2, .int .u8 a0_3, .int .u8 a0_4, .int .u8 a0_5, .slice A0_6 l0_6.length c0_6] 79 ?_; intro gb101 hg w17 hbox hb; have BK101 := hbox; have GW101 := gs HB hg; have GE101 := gs HB hg; replace HB := bs HB hb; clear hb hbox hg) | ((with_reducible refine gate_dst (N := 5) rfl ?_); (try (refine gate_guard (by rfl) ?_; dsimp only)); refine bx 5 #[.int .u8 a2_0, .int .u8 a2_1] 81 ?_; intro gb102 hg w18 hbox hb; have BK102 := hbox; have GW102 := gs HB hg; have GE102 := gs HB hg; replace HB := bs HB hb; have NB101_102 := nl BK101 hg; have NB102_101 := nr BK101 hg; replace BK101 := bb BK101 hb; clear hb hbox hg))
  replace BK101 := Aside0.mk (blk_drew BK101.out)
  replace BK102 := Aside0.mk (blk_drew BK102.out)
  replace HB := Aside0.mk (below_drew1 HB.out)
  refine start_ (n := 7) (S := fun w' => w'.cell? ⟨gb101, 0, none⟩ = some (.slice A0_0 l0_0.length c0_0) ∧ w'.cell? ⟨gb101, 1, none⟩ = some (.int .u8 a0_1) ∧ w'.cell? ⟨gb101, 2, none⟩ = some (.int .u8 a0_2) ∧ w'.cell? ⟨gb101, 3, none⟩ = some (.int .u8 a0_3) ∧ w'.cell? ⟨gb101, 4, none⟩ = some (.int .u8 a0_4) ∧ w'.cell? ⟨gb101, 5, none⟩ = some (.int .u8 a0_5) ∧ w'.cell? ⟨gb101, 6, none⟩ = some (.slice A0_6 l0_6.length c0_6)) (ds := []) #[false, false, false, false, false, false, false] (by kernel_rfl) rfl rfl ⟨(blk_cell BK101.out 0).trans rfl, (blk_cell BK101.out 1).trans rfl, (blk_cell BK101.out 2).trans rfl, (blk_cell BK101.out 3).trans rfl, (blk_cell BK101.out 4).trans rfl, (blk_cell BK101.out 5).trans rfl, (blk_cell BK101.out 6).trans rfl⟩ (fun hHeld => ?_)
  generalize w18.drew = w19 at BK101 BK102 HB hHeld ⊢
  refine tk 0 25 hHeld ?_
  refine tk 2 27 hHeld ?_
  refine join_ (σ := Value × Value × Value × Nat) 2 #[true, true, true, true, true, false, false] (fun s_ => [(26, .agg #[s_.1, s_.2.1, .int .i64 t109, .int .i64 t110]), (28, s_.2.2.1), (7, .pointer (some ⟨s_.2.2.2, 0, none⟩))]) (fun s_ w' => (w'.cell? ⟨gb101, 0, none⟩ = some (.slice A0_0 l0_0.length c0_0) ∧ w'.cell? ⟨gb101, 1, none⟩ = some (.int .u8 a0_1) ∧ w'.cell? ⟨gb101, 2, none⟩ = some (.int .u8 a0_2) ∧ w'.cell? ⟨gb101, 3, none⟩ = some (.int .u8 a0_3) ∧ w'.cell? ⟨gb101, 4, none⟩ = some (.int .u8 a0_4) ∧ w'.cell? ⟨gb101, 5, none⟩ = some (.int .u8 a0_5) ∧ w'.cell? ⟨gb101, 6, none⟩ = some (.slice A0_6 l0_6.length c0_6)) ∧ (Kd.R k43 43 w' w.heap.size (fun _ => True) s_.1 t103) ∧ (Kd.R (Kd.int .i64) 3 w' w.heap.size (fun _ => True) s_.2.1 t106) ∧ (Kd.R k36 36 w' w.heap.size (fun _ => True) s_.2.2.1 t111) ∧ (w'.heap[gb101]? = some (.cells #[.slice A0_0 l0_0.length c0_0, .int .u8 a0_1, .int .u8 a0_2, .int .u8 a0_3, .int .u8 a0_4, .int .u8 a0_5, .slice A0_6 l0_6.length c0_6] 79 (0, 0))) ∧ (w'.heap[gb102]? = some (.cells #[.int .u8 a2_0, .int .u8 a2_1] 81 (0, 0))) ∧ (w'.heap[s_.2.2.2]? = some (.cells #[.slice none 0 0, .slice none 0 0, .int .i64 0, .int .i64 0] 25 (0, 0))) ∧ (w.heap.size ≤ s_.2.2.2) ∧ (w.heap.size ≤ s_.2.2.2) ∧ (gb101 ≠ s_.2.2.2) ∧ (s_.2.2.2 ≠ gb101) ∧ (gb102 ≠ s_.2.2.2) ∧ (s_.2.2.2 ≠ gb102) ∧ (Below w.heap.size w w')) ?_ ?_
  rotate_left
  ·
   intro hCont
   refine two_ (i := 1) (j := 4) (Ni := some 26) (Nj := some 7) #[true, true, true, false, false, false, false] #[true, false, true, false, true, false, false] rfl rfl rfl rfl (by kernel_rfl) (by decide) (by decide) (fun K hK => ?_) (fun K hK => ?_)
   ·
    skip
    refine gO Tryz.func43 #[.agg #[.slice A0_0 l0_0.length c0_0, .int .u8 a0_1, .int .u8 a0_2, .int .u8 a0_3, .int .u8 a0_4, .int .u8 a0_5, .slice A0_6 l0_6.length c0_6]] ?_
    with_reducible refine (walkmilllaw05_Green_field.calls k _ _ l0_0 a0_1 a0_2 a0_3 a0_4 a0_5 _ _ l0_6 t103 t106 t109 t110 _ ?side1 ?side2 ?side3 ?side4 A4.out).mono ?_
    (case side1 => exact pC (Kd.C_below HR0_0.out HB.out))
    (case side2 => exact HC0_0.out)
    (case side3 => exact pC (Kd.C_below HR0_6.out HB.out))
    (case side4 => exact HC0_6.out)
    rintro e w20 ⟨v104, v107, rfl, ho0, ho1, hb⟩
    refine ⟨_, rfl, ?_⟩
    have HO105 := rl ho0 HB
    have HO108 := rl ho1 HB
    replace BK101 := bb BK101 hb
    replace BK102 := bb BK102 hb
    replace HB := bs HB hb
    (try clear hb)
    (try clear hb2)
    (try clear hk)
    (try clear hi)
    (try clear ho0)
    (try clear ho1)
    refine hK.out _ _ ⟨(blk_cell BK101.out 0).trans rfl, (blk_cell BK101.out 1).trans rfl, (blk_cell BK101.out 2).trans rfl, (blk_cell BK101.out 3).trans rfl, (blk_cell BK101.out 4).trans rfl, (blk_cell BK101.out 5).trans rfl, (blk_cell BK101.out 6).trans rfl⟩ (fun hHeld => ?_)
    clear hK K
    refine norm_ (a' := ?_) ?_ ?_
    rotate_left
    ·
     show Act.put _ (some 26) _ = _
     simp only [Act.put, List.setIfInBounds_toArray, List.set_cons_zero, List.set_cons_succ, i64_w, i32_w]
     rfl
    refine two_ (i := 3) (j := 4) (Ni := some 28) (Nj := some 7) #[true, true, true, true, false, false, false] #[true, true, true, false, true, false, false] rfl rfl rfl rfl (by kernel_rfl) (by decide) (by decide) (fun K hK => ?_) (fun K hK => ?_)
    ·
     skip
     refine gO Tryz.func44 #[.agg #[.slice A0_0 l0_0.length c0_0, .int .u8 a0_1, .int .u8 a0_2, .int .u8 a0_3, .int .u8 a0_4, .int .u8 a0_5, .slice A0_6 l0_6.length c0_6]] ?_
     with_reducible refine (walkmilllaw05_Green_weather.calls k _ _ l0_0 a0_1 a0_2 a0_3 a0_4 a0_5 _ _ l0_6 t111 _ ?side1 ?side2 ?side3 ?side4 A5.out).mono ?_
     (case side1 => exact pC (Kd.C_below HR0_0.out HB.out))
     (case side2 => exact HC0_0.out)
     (case side3 => exact pC (Kd.C_below HR0_6.out HB.out))
     (case side4 => exact HC0_6.out)
     rintro e w21 ⟨v112, rfl, ho0, hb⟩
     refine ⟨_, rfl, ?_⟩
     replace HO105 := rb HO105 hb
     replace HO108 := rb HO108 hb
     have HO113 := rl ho0 HB
     replace BK101 := bb BK101 hb
     replace BK102 := bb BK102 hb
     replace HB := bs HB hb
     (try clear hb)
     (try clear hb2)
     (try clear hk)
     (try clear hi)
     (try clear ho0)
     refine hK.out _ _ ⟨(blk_cell BK101.out 0).trans rfl, (blk_cell BK101.out 1).trans rfl, (blk_cell BK101.out 2).trans rfl, (blk_cell BK101.out 3).trans rfl, (blk_cell BK101.out 4).trans rfl, (blk_cell BK101.out 5).trans rfl, (blk_cell BK101.out 6).trans rfl⟩ (fun hHeld => ?_)
     clear hK K
     refine norm_ (a' := ?_) ?_ ?_
     rotate_left
     ·
      show Act.put _ (some 28) _ = _
      simp only [Act.put, List.setIfInBounds_toArray, List.set_cons_zero, List.set_cons_succ, i64_w, i32_w]
      rfl
     refine on 4 (fun K hK => ?_)
     refine box_step ?hg (N := 7) ?hd (cs := #[.slice none 0 0, .slice none 0 0, .int .i64 0, .int .i64 0]) (t := 25) ?hr ?_; (case hd => rfl); (case hg => rfl); (case hr => first | (go_simp; done) | (go_simp; rfl))
     intro gb114 hg w22 hbox hb
     replace HO105 := rb HO105 hb
     replace HO108 := rb HO108 hb
     replace HO113 := rb HO113 hb
     have BK114 := Aside0.mk (hbox)
     have GW114 := gs HB hg
     have GE114 := gs HB hg
     replace HB := bs HB hb
     have NB101_114 := nl BK101 hg
     have NB114_101 := nr BK101 hg
     replace BK101 := bb BK101 hb
     have NB102_114 := nl BK102 hg
     have NB114_102 := nr BK102 hg
     replace BK102 := bb BK102 hb
     clear hb hbox hg
     refine hK.out _ _ ⟨(blk_cell BK101.out 0).trans rfl, (blk_cell BK101.out 1).trans rfl, (blk_cell BK101.out 2).trans rfl, (blk_cell BK101.out 3).trans rfl, (blk_cell BK101.out 4).trans rfl, (blk_cell BK101.out 5).trans rfl, (blk_cell BK101.out 6).trans rfl⟩ (fun hHeld => ?_)
     clear hK K
     refine norm_ (a' := ?_) ?_ ?_
     rotate_left
     ·
      show Act.put _ (some 7) _ = _
      simp only [Act.put, List.setIfInBounds_toArray, List.set_cons_zero, List.set_cons_succ, i64_w, i32_w]
      rfl
     exact norm_ (by simp only [putAll, Act.put, List.setIfInBounds_toArray, List.set_cons_zero, List.set_cons_succ]) (hCont (v104, v107, v112, gb114) _ ⟨hHeld, (pR HO105.out), (pR HO108.out), (pR HO113.out), (pB BK101.out), (pB BK102.out), (pB BK114.out), GW114.out, GE114.out, NB101_114.out, NB114_101.out, NB102_114.out, NB114_102.out, (pE HB)⟩)
    ·
     skip
     refine box_step ?hg (N := 7) ?hd (cs := #[.slice none 0 0, .slice none 0 0, .int .i64 0, .int .i64 0]) (t := 25) ?hr ?_; (case hd => rfl); (case hg => rfl); (case hr => first | (go_simp; done) | (go_simp; rfl))
     intro gb114 hg w21 hbox hb
     replace HO105 := rb HO105 hb
     replace HO108 := rb HO108 hb
     have BK114 := Aside0.mk (hbox)
     have GW114 := gs HB hg
     have GE114 := gs HB hg
     replace HB := bs HB hb
     have NB101_114 := nl BK101 hg
     have NB114_101 := nr BK101 hg
     replace BK101 := bb BK101 hb
     have NB102_114 := nl BK102 hg
     have NB114_102 := nr BK102 hg
     replace BK102 := bb BK102 hb
     clear hb hbox hg
     refine hK.out _ _ ⟨(blk_cell BK101.out 0).trans rfl, (blk_cell BK101.out 1).trans rfl, (blk_cell BK101.out 2).trans rfl, (blk_cell BK101.out 3).trans rfl, (blk_cell BK101.out 4).trans rfl, (blk_cell BK101.out 5).trans rfl, (blk_cell BK101.out 6).trans rfl⟩ (fun hHeld => ?_)
     clear hK K
     refine norm_ (a' := ?_) ?_ ?_
     rotate_left
     ·
      show Act.put _ (some 7) _ = _
      simp only [Act.put, List.setIfInBounds_toArray, List.set_cons_zero, List.set_cons_succ, i64_w, i32_w]
      rfl
     refine on 3 (fun K hK => ?_)
     refine gO Tryz.func44 #[.agg #[.slice A0_0 l0_0.length c0_0, .int .u8 a0_1, .int .u8 a0_2, .int .u8 a0_3, .int .u8 a0_4, .int .u8 a0_5, .slice A0_6 l0_6.length c0_6]] ?_
     with_reducible refine (walkmilllaw05_Green_weather.calls k _ _ l0_0 a0_1 a0_2 a0_3 a0_4 a0_5 _ _ l0_6 t111 _ ?side1 ?side2 ?side3 ?side4 A5.out).mono ?_
     (case side1 => exact pC (Kd.C_below HR0_0.out HB.out))
     (case side2 => exact HC0_0.out)
     (case side3 => exact pC (Kd.C_below HR0_6.out HB.out))
     (case side4 => exact HC0_6.out)
     rintro e w22 ⟨v112, rfl, ho0, hb⟩
     refine ⟨_, rfl, ?_⟩
     replace HO105 := rb HO105 hb
     replace HO108 := rb HO108 hb
     have HO113 := rl ho0 HB
     replace BK101 := bb BK101 hb
     replace BK102 := bb BK102 hb
     replace BK114 := bb BK114 hb
     replace HB := bs HB hb
     (try clear hb)
     (try clear hb2)
     (try clear hk)
     (try clear hi)
     (try clear ho0)
     refine hK.out _ _ ⟨(blk_cell BK101.out 0).trans rfl, (blk_cell BK101.out 1).trans rfl, (blk_cell BK101.out 2).trans rfl, (blk_cell BK101.out 3).trans rfl, (blk_cell BK101.out 4).trans rfl, (blk_cell BK101.out 5).trans rfl, (blk_cell BK101.out 6).trans rfl⟩ (fun hHeld => ?_)
     clear hK K
     refine norm_ (a' := ?_) ?_ ?_
     rotate_left
     ·
      show Act.put _ (some 28) _ = _
      simp only [Act.put, List.setIfInBounds_toArray, List.set_cons_zero, List.set_cons_succ, i64_w, i32_w]
      rfl
     exact norm_ (by simp only [putAll, Act.put, List.setIfInBounds_toArray, List.set_cons_zero, List.set_cons_succ]) (hCont (v104, v107, v112, gb114) _ ⟨hHeld, (pR HO105.out), (pR HO108.out), (pR HO113.out), (pB BK101.out), (pB BK102.out), (pB BK114.out), GW114.out, GE114.out, NB101_114.out, NB114_101.out, NB102_114.out, NB114_102.out, (pE HB)⟩)
   ·
    skip
    refine box_step ?hg (N := 7) ?hd (cs := #[.slice none 0 0, .slice none 0 0, .int .i64 0, .int .i64 0]) (t := 25) ?hr ?_; (case hd => rfl); (case hg => rfl); (case hr => first | (go_simp; done) | (go_simp; rfl))
    intro gb114 hg w20 hbox hb
    have BK114 := Aside0.mk (hbox)
    have GW114 := gs HB hg
    have GE114 := gs HB hg
    replace HB := bs HB hb
    have NB101_114 := nl BK101 hg
    have NB114_101 := nr BK101 hg
    replace BK101 := bb BK101 hb
    have NB102_114 := nl BK102 hg
    have NB114_102 := nr BK102 hg
    replace BK102 := bb BK102 hb
    clear hb hbox hg
    refine hK.out _ _ ⟨(blk_cell BK101.out 0).trans rfl, (blk_cell BK101.out 1).trans rfl, (blk_cell BK101.out 2).trans rfl, (blk_cell BK101.out 3).trans rfl, (blk_cell BK101.out 4).trans rfl, (blk_cell BK101.out 5).trans rfl, (blk_cell BK101.out 6).trans rfl⟩ (fun hHeld => ?_)
    clear hK K
    refine norm_ (a' := ?_) ?_ ?_
    rotate_left
    ·
     show Act.put _ (some 7) _ = _
     simp only [Act.put, List.setIfInBounds_toArray, List.set_cons_zero, List.set_cons_succ, i64_w, i32_w]
     rfl
    refine on 1 (fun K hK => ?_)
    refine gO Tryz.func43 #[.agg #[.slice A0_0 l0_0.length c0_0, .int .u8 a0_1, .int .u8 a0_2, .int .u8 a0_3, .int .u8 a0_4, .int .u8 a0_5, .slice A0_6 l0_6.length c0_6]] ?_
    with_reducible refine (walkmilllaw05_Green_field.calls k _ _ l0_0 a0_1 a0_2 a0_3 a0_4 a0_5 _ _ l0_6 t103 t106 t109 t110 _ ?side1 ?side2 ?side3 ?side4 A4.out).mono ?_
    (case side1 => exact pC (Kd.C_below HR0_0.out HB.out))
    (case side2 => exact HC0_0.out)
    (case side3 => exact pC (Kd.C_below HR0_6.out HB.out))
    (case side4 => exact HC0_6.out)
    rintro e w21 ⟨v104, v107, rfl, ho0, ho1, hb⟩
    refine ⟨_, rfl, ?_⟩
    have HO105 := rl ho0 HB
    have HO108 := rl ho1 HB
    replace BK101 := bb BK101 hb
    replace BK102 := bb BK102 hb
    replace BK114 := bb BK114 hb
    replace HB := bs HB hb
    (try clear hb)
    (try clear hb2)
    (try clear hk)
    (try clear hi)
    (try clear ho0)
    (try clear ho1)
    refine hK.out _ _ ⟨(blk_cell BK101.out 0).trans rfl, (blk_cell BK101.out 1).trans rfl, (blk_cell BK101.out 2).trans rfl, (blk_cell BK101.out 3).trans rfl, (blk_cell BK101.out 4).trans rfl, (blk_cell BK101.out 5).trans rfl, (blk_cell BK101.out 6).trans rfl⟩ (fun hHeld => ?_)
    clear hK K
    refine norm_ (a' := ?_) ?_ ?_
    rotate_left
    ·
     show Act.put _ (some 26) _ = _
     simp only [Act.put, List.setIfInBounds_toArray, List.set_cons_zero, List.set_cons_succ, i64_w, i32_w]
     rfl
    refine on 3 (fun K hK => ?_)
    refine gO Tryz.func44 #[.agg #[.slice A0_0 l0_0.length c0_0, .int .u8 a0_1, .int .u8 a0_2, .int .u8 a0_3, .int .u8 a0_4, .int .u8 a0_5, .slice A0_6 l0_6.length c0_6]] ?_
    with_reducible refine (walkmilllaw05_Green_weather.calls k _ _ l0_0 a0_1 a0_2 a0_3 a0_4 a0_5 _ _ l0_6 t111 _ ?side1 ?side2 ?side3 ?side4 A5.out).mono ?_
    (case side1 => exact pC (Kd.C_below HR0_0.out HB.out))
    (case side2 => exact HC0_0.out)
    (case side3 => exact pC (Kd.C_below HR0_6.out HB.out))
    (case side4 => exact HC0_6.out)
    rintro e w22 ⟨v112, rfl, ho0, hb⟩
    refine ⟨_, rfl, ?_⟩
    replace HO105 := rb HO105 hb
    replace HO108 := rb HO108 hb
    have HO113 := rl ho0 HB
    replace BK101 := bb BK101 hb
    replace BK102 := bb BK102 hb
    replace BK114 := bb BK114 hb
    replace HB := bs HB hb
    (try clear hb)
    (try clear hb2)
    (try clear hk)
    (try clear hi)
    (try clear ho0)
    refine hK.out _ _ ⟨(blk_cell BK101.out 0).trans rfl, (blk_cell BK101.out 1).trans rfl, (blk_cell BK101.out 2).trans rfl, (blk_cell BK101.out 3).trans rfl, (blk_cell BK101.out 4).trans rfl, (blk_cell BK101.out 5).trans rfl, (blk_cell BK101.out 6).trans rfl⟩ (fun hHeld => ?_)
    clear hK K
    refine norm_ (a' := ?_) ?_ ?_
    rotate_left
    ·
     show Act.put _ (some 28) _ = _
     simp only [Act.put, List.setIfInBounds_toArray, List.set_cons_zero, List.set_cons_succ, i64_w, i32_w]
     rfl
    exact norm_ (by simp only [putAll, Act.put, List.setIfInBounds_toArray, List.set_cons_zero, List.set_cons_succ]) (hCont (v104, v107, v112, gb114) _ ⟨hHeld, (pR HO105.out), (pR HO108.out), (pR HO113.out), (pB BK101.out), (pB BK102.out), (pB BK114.out), GW114.out, GE114.out, NB101_114.out, NB114_101.out, NB102_114.out, NB114_102.out, (pE HB)⟩)
  rintro ⟨v104, v107, v112, gb114⟩ w23 ⟨hS_, h0_, h1_, h2_, h3_, h4_, h5_, h6_, h7_, h8_, h9_, h10_, h11_, h12_⟩
  have n0_ : Aside0 (Kd.R k43 43 w23 w.heap.size (fun _ => True) v104 t103) := ⟨h0_⟩
  have n1_ : Aside0 (Kd.R (Kd.int .i64) 3 w23 w.heap.size (fun _ => True) v107 t106) := ⟨h1_⟩
  have n2_ : Aside0 (Kd.R k36 36 w23 w.heap.size (fun _ => True) v112 t111) := ⟨h2_⟩
  have n3_ : Aside0 (w23.heap[gb101]? = some (.cells #[.slice A0_0 l0_0.length c0_0, .int .u8 a0_1, .int .u8 a0_2, .int .u8 a0_3, .int .u8 a0_4, .int .u8 a0_5, .slice A0_6 l0_6.length c0_6] 79 (0, 0))) := ⟨h3_⟩
  have n4_ : Aside0 (w23.heap[gb102]? = some (.cells #[.int .u8 a2_0, .int .u8 a2_1] 81 (0, 0))) := ⟨h4_⟩
  have n5_ : Aside0 (w23.heap[gb114]? = some (.cells #[.slice none 0 0, .slice none 0 0, .int .i64 0, .int .i64 0] 25 (0, 0))) := ⟨h5_⟩
  have n6_ : Aside0 (w.heap.size ≤ gb114) := ⟨h6_⟩
  have n7_ : Aside0 (w.heap.size ≤ gb114) := ⟨h7_⟩
  have n8_ : Aside0 (gb101 ≠ gb114) := ⟨h8_⟩
  have n9_ : Aside0 (gb114 ≠ gb101) := ⟨h9_⟩
  have n10_ : Aside0 (gb102 ≠ gb114) := ⟨h10_⟩
  have n11_ : Aside0 (gb114 ≠ gb102) := ⟨h11_⟩
  have n12_ : Aside0 (Below w.heap.size w w23) := ⟨h12_⟩
  clear BK101 BK102 HB h0_ h1_ h2_ h3_ h4_ h5_ h6_ h7_ h8_ h9_ h10_ h11_ h12_
  have HO105 := n0_
  have HO108 := n1_
  have HO113 := n2_
  have BK101 := n3_
  have BK102 := n4_
  have BK114 := n5_
  have GW114 := n6_
  have GE114 := n7_
  have NB101_114 := n8_
  have NB114_101 := n9_
  have NB102_114 := n10_
  have NB114_102 := n11_
  have HB := n12_
  clear n0_ n1_ n2_ n3_ n4_ n5_ n6_ n7_ n8_ n9_ n10_ n11_ n12_
  have hHeld : w23.cell? ⟨gb101, 0, none⟩ = some (.slice A0_0 l0_0.length c0_0) ∧ w23.cell? ⟨gb101, 1, none⟩ = some (.int .u8 a0_1) ∧ w23.cell? ⟨gb101, 2, none⟩ = some (.int .u8 a0_2) ∧ w23.cell? ⟨gb101, 3, none⟩ = some (.int .u8 a0_3) ∧ w23.cell? ⟨gb101, 4, none⟩ = some (.int .u8 a0_4) ∧ w23.cell? ⟨gb101, 5, none⟩ = some (.int .u8 a0_5) ∧ w23.cell? ⟨gb101, 6, none⟩ = some (.slice A0_6 l0_6.length c0_6) := hS_
  obtain ⟨Ao24, co24, eo24⟩ := Kd.R_slice HO105.out
  (first | subst eo24 | (injection eo24 with f1_ f2_ f3_; have f4_ := f1_.symm; have f5_ := f3_.symm; clear f1_ f2_ f3_; subst f4_; subst f5_))
  obtain ⟨Ao26, co26, eo26⟩ := Kd.R_slice HO108.out
  (first | subst eo26 | (injection eo26 with f1_ f2_ f3_; have f4_ := f1_.symm; have f5_ := f3_.symm; clear f1_ f2_ f3_; subst f4_; subst f5_))
  refine norm_ (a' := ?_) ?_ ?_
  rotate_left
  ·
   simp only [putAll, Act.put, List.setIfInBounds_toArray, List.set_cons_zero, List.set_cons_succ]
   rfl
  refine on 5 (fun K hK => ?_)
  have hs25 : w23.cell? ⟨gb114, 0, none⟩ = some (.slice none 0 0) := (blk_cell BK114.out 0).trans rfl
  have hfs25 := blk_frozen BK114.out 0
  have hns25_0 := NB101_114.out
  have hns25_1 := NB102_114.out
  have hms25_0 := NB114_101.out
  have hms25_1 := NB114_102.out
  have hs27 : w23.cell? ⟨gb114, 1, none⟩ = some (.slice none 0 0) := (blk_cell BK114.out 1).trans rfl
  have hfs27 := blk_frozen BK114.out 1
  have hns27_0 := NB101_114.out
  have hns27_1 := NB102_114.out
  have hms27_0 := NB114_101.out
  have hms27_1 := NB114_102.out
  have hs28 : w23.cell? ⟨gb114, 2, none⟩ = some (.int .i64 0) := (blk_cell BK114.out 2).trans rfl
  have hfs28 := blk_frozen BK114.out 2
  have hns28_0 := NB101_114.out
  have hns28_1 := NB102_114.out
  have hms28_0 := NB114_101.out
  have hms28_1 := NB114_102.out
  have hs29 : w23.cell? ⟨gb114, 3, none⟩ = some (.int .i64 0) := (blk_cell BK114.out 3).trans rfl
  have hfs29 := blk_frozen BK114.out 3
  have hns29_0 := NB101_114.out
  have hns29_1 := NB102_114.out
  have hms29_0 := NB114_101.out
  have hms29_1 := NB114_102.out
  refine skip_ (w1 := ?_) (by rfl) rfl ?_ ?_
  rotate_left
  ·
   go_simp
   rfl
  refine hK.out _ _ ⟨((cell_far (p := ⟨gb114, _, none⟩) NB101_114.out _).trans (((cell_far (p := ⟨gb114, _, none⟩) NB101_114.out _).trans (((cell_far (p := ⟨gb114, _, none⟩) NB101_114.out _).trans (((cell_far (p := ⟨gb114, _, none⟩) NB101_114.out _).trans (hHeld.1)))))))), ((cell_far (p := ⟨gb114, _, none⟩) NB101_114.out _).trans (((cell_far (p := ⟨gb114, _, none⟩) NB101_114.out _).trans (((cell_far (p := ⟨gb114, _, none⟩) NB101_114.out _).trans (((cell_far (p := ⟨gb114, _, none⟩) NB101_114.out _).trans (hHeld.2.1)))))))), ((cell_far (p := ⟨gb114, _, none⟩) NB101_114.out _).trans (((cell_far (p := ⟨gb114, _, none⟩) NB101_114.out _).trans (((cell_far (p := ⟨gb114, _, none⟩) NB101_114.out _).trans (((cell_far (p := ⟨gb114, _, none⟩) NB101_114.out _).trans (hHeld.2.2.1)))))))), ((cell_far (p := ⟨gb114, _, none⟩) NB101_114.out _).trans (((cell_far (p := ⟨gb114, _, none⟩) NB101_114.out _).trans (((cell_far (p := ⟨gb114, _, none⟩) NB101_114.out _).trans (((cell_far (p := ⟨gb114, _, none⟩) NB101_114.out _).trans (hHeld.2.2.2.1)))))))), ((cell_far (p := ⟨gb114, _, none⟩) NB101_114.out _).trans (((cell_far (p := ⟨gb114, _, none⟩) NB101_114.out _).trans (((cell_far (p := ⟨gb114, _, none⟩) NB101_114.out _).trans (((cell_far (p := ⟨gb114, _, none⟩) NB101_114.out _).trans (hHeld.2.2.2.2.1)))))))), ((cell_far (p := ⟨gb114, _, none⟩) NB101_114.out _).trans (((cell_far (p := ⟨gb114, _, none⟩) NB101_114.out _).trans (((cell_far (p := ⟨gb114, _, none⟩) NB101_114.out _).trans (((cell_far (p := ⟨gb114, _, none⟩) NB101_114.out _).trans (hHeld.2.2.2.2.2.1)))))))), ((cell_far (p := ⟨gb114, _, none⟩) NB101_114.out _).trans (((cell_far (p := ⟨gb114, _, none⟩) NB101_114.out _).trans (((cell_far (p := ⟨gb114, _, none⟩) NB101_114.out _).trans (((cell_far (p := ⟨gb114, _, none⟩) NB101_114.out _).trans (hHeld.2.2.2.2.2.2))))))))⟩ (fun hHeld => ?_)
  clear hK K
  refine pu 6 8 ?_
  refine done_ (by kernel_rfl) ?_
  try go_wp2
  have n0_ : Aside0 (Kd.R k43 43 ((((w23.setCell ⟨gb114, 0, none⟩ (.slice Ao24 t103.length co24)).setCell ⟨gb114, 1, none⟩ (.slice Ao26 t106.length co26)).setCell ⟨gb114, 2, none⟩ (.int .i64 t109)).setCell ⟨gb114, 3, none⟩ (.int .i64 t110)) w.heap.size (fun _ => True) (.slice Ao24 t103.length co24) t103) := ⟨by (with_reducible repeat (first | apply Kd.R_alloc | apply Kd.R_drewN | apply Kd.R_drew)); exact Kd.R_mono (Kd.R_far (p := ⟨gb114, 3, none⟩) (Kd.R_far (p := ⟨gb114, 2, none⟩) (Kd.R_far (p := ⟨gb114, 1, none⟩) (Kd.R_far (p := ⟨gb114, 0, none⟩) (Kd.R_types HO105.out BK114.out (by decide)) (fun _ hk => hk.2) (.slice Ao24 t103.length co24)) (fun _ hk => hk.2) (.slice Ao26 t106.length co26)) (fun _ hk => hk.2) (.int .i64 t109)) (fun _ hk => hk.2) (.int .i64 t110)) (fun _ hk => trivial)⟩
  have n1_ : Aside0 (Kd.R (Kd.int .i64) 3 ((((w23.setCell ⟨gb114, 0, none⟩ (.slice Ao24 t103.length co24)).setCell ⟨gb114, 1, none⟩ (.slice Ao26 t106.length co26)).setCell ⟨gb114, 2, none⟩ (.int .i64 t109)).setCell ⟨gb114, 3, none⟩ (.int .i64 t110)) w.heap.size (fun _ => True) (.slice Ao26 t106.length co26) t106) := ⟨by (with_reducible repeat (first | apply Kd.R_alloc | apply Kd.R_drewN | apply Kd.R_drew)); exact Kd.R_mono (Kd.R_far (p := ⟨gb114, 3, none⟩) (Kd.R_far (p := ⟨gb114, 2, none⟩) (Kd.R_far (p := ⟨gb114, 1, none⟩) (Kd.R_far (p := ⟨gb114, 0, none⟩) (Kd.R_types HO108.out BK114.out (by decide)) (fun _ hk => hk.2) (.slice Ao24 t103.length co24)) (fun _ hk => hk.2) (.slice Ao26 t106.length co26)) (fun _ hk => hk.2) (.int .i64 t109)) (fun _ hk => hk.2) (.int .i64 t110)) (fun _ hk => trivial)⟩
  have n2_ : Aside0 (Kd.R k36 36 ((((w23.setCell ⟨gb114, 0, none⟩ (.slice Ao24 t103.length co24)).setCell ⟨gb114, 1, none⟩ (.slice Ao26 t106.length co26)).setCell ⟨gb114, 2, none⟩ (.int .i64 t109)).setCell ⟨gb114, 3, none⟩ (.int .i64 t110)) w.heap.size (fun _ => True) v112 t111) := ⟨by (with_reducible repeat (first | apply Kd.R_alloc | apply Kd.R_drewN | apply Kd.R_drew)); exact Kd.R_mono (Kd.R_far (p := ⟨gb114, 3, none⟩) (Kd.R_far (p := ⟨gb114, 2, none⟩) (Kd.R_far (p := ⟨gb114, 1, none⟩) (Kd.R_far (p := ⟨gb114, 0, none⟩) (Kd.R_types HO113.out BK114.out (by decide)) (fun _ hk => hk.2) (.slice Ao24 t103.length co24)) (fun _ hk => hk.2) (.slice Ao26 t106.length co26)) (fun _ hk => hk.2) (.int .i64 t109)) (fun _ hk => hk.2) (.int .i64 t110)) (fun _ hk => trivial)⟩
  have n3_ : Aside0 (((((w23.setCell ⟨gb114, 0, none⟩ (.slice Ao24 t103.length co24)).setCell ⟨gb114, 1, none⟩ (.slice Ao26 t106.length co26)).setCell ⟨gb114, 2, none⟩ (.int .i64 t109)).setCell ⟨gb114, 3, none⟩ (.int .i64 t110)).heap[gb101]? = some (.cells #[.slice A0_0 l0_0.length c0_0, .int .u8 a0_1, .int .u8 a0_2, .int .u8 a0_3, .int .u8 a0_4, .int .u8 a0_5, .slice A0_6 l0_6.length c0_6] 79 (0, 0))) := ⟨by refine pB ?_; refine blk_far ?_ NB101_114.out _; refine pB ?_; refine blk_far ?_ NB101_114.out _; refine pB ?_; refine blk_far ?_ NB101_114.out _; refine pB ?_; refine blk_far ?_ NB101_114.out _; (with_reducible repeat (first | refine blk_drewN ?_ _ | refine blk_drew ?_ | refine blk_alloc ?_ _)); exact BK101.out⟩
  have n4_ : Aside0 (((((w23.setCell ⟨gb114, 0, none⟩ (.slice Ao24 t103.length co24)).setCell ⟨gb114, 1, none⟩ (.slice Ao26 t106.length co26)).setCell ⟨gb114, 2, none⟩ (.int .i64 t109)).setCell ⟨gb114, 3, none⟩ (.int .i64 t110)).heap[gb102]? = some (.cells #[.int .u8 a2_0, .int .u8 a2_1] 81 (0, 0))) := ⟨by refine pB ?_; refine blk_far ?_ NB102_114.out _; refine pB ?_; refine blk_far ?_ NB102_114.out _; refine pB ?_; refine blk_far ?_ NB102_114.out _; refine pB ?_; refine blk_far ?_ NB102_114.out _; (with_reducible repeat (first | refine blk_drewN ?_ _ | refine blk_drew ?_ | refine blk_alloc ?_ _)); exact BK102.out⟩
  have n5_ : Aside0 (((((w23.setCell ⟨gb114, 0, none⟩ (.slice Ao24 t103.length co24)).setCell ⟨gb114, 1, none⟩ (.slice Ao26 t106.length co26)).setCell ⟨gb114, 2, none⟩ (.int .i64 t109)).setCell ⟨gb114, 3, none⟩ (.int .i64 t110)).heap[gb114]? = some (.cells #[.slice Ao24 t103.length co24, .slice Ao26 t106.length co26, .int .i64 t109, .int .i64 t110] 25 (0, 0))) := ⟨by refine pB ?_; refine blk_put (cs := #[.slice Ao24 t103.length co24, .slice Ao26 t106.length co26, .int .i64 t109, .int .i64 0]) ?_ 3 _ rfl; refine pB ?_; refine blk_put (cs := #[.slice Ao24 t103.length co24, .slice Ao26 t106.length co26, .int .i64 0, .int .i64 0]) ?_ 2 _ rfl; refine pB ?_; refine blk_put (cs := #[.slice Ao24 t103.length co24, .slice none 0 0, .int .i64 0, .int .i64 0]) ?_ 1 _ rfl; refine pB ?_; refine blk_put (cs := #[.slice none 0 0, .slice none 0 0, .int .i64 0, .int .i64 0]) ?_ 0 _ rfl; (with_reducible repeat (first | refine blk_drewN ?_ _ | refine blk_drew ?_ | refine blk_alloc ?_ _)); exact BK114.out⟩
  have n6_ : Aside0 (Below w.heap.size w ((((w23.setCell ⟨gb114, 0, none⟩ (.slice Ao24 t103.length co24)).setCell ⟨gb114, 1, none⟩ (.slice Ao26 t106.length co26)).setCell ⟨gb114, 2, none⟩ (.int .i64 t109)).setCell ⟨gb114, 3, none⟩ (.int .i64 t110))) := ⟨pE HB⟩
  (try clear HO105)
  (try clear HO108)
  (try clear HO113)
  (try clear BK101)
  (try clear BK102)
  (try clear BK114)
  (try clear HB)
  generalize ((((w23.setCell ⟨gb114, 0, none⟩ (.slice Ao24 t103.length co24)).setCell ⟨gb114, 1, none⟩ (.slice Ao26 t106.length co26)).setCell ⟨gb114, 2, none⟩ (.int .i64 t109)).setCell ⟨gb114, 3, none⟩ (.int .i64 t110)) = w30 at n0_ n1_ n2_ n3_ n4_ n5_ n6_ ⊢
  have HO105 := n0_
  have HO108 := n1_
  have HO113 := n2_
  have BK101 := n3_
  have BK102 := n4_
  have BK114 := n5_
  have HB := n6_
  clear n0_ n1_ n2_ n3_ n4_ n5_ n6_
  replace HO105 := Aside0.mk (Kd.R_drew HO105.out)
  replace HO108 := Aside0.mk (Kd.R_drew HO108.out)
  replace HO113 := Aside0.mk (Kd.R_drew HO113.out)
  replace BK101 := Aside0.mk (blk_drew BK101.out)
  replace BK102 := Aside0.mk (blk_drew BK102.out)
  replace BK114 := Aside0.mk (blk_drew BK114.out)
  replace HB := Aside0.mk (below_drew1 HB.out)
  obtain ⟨Ao32, co32, eo32⟩ := Kd.R_slice HO113.out
  (first | subst eo32 | (injection eo32 with f1_ f2_ f3_; have f4_ := f1_.symm; have f5_ := f3_.symm; clear f1_ f2_ f3_; subst f4_; subst f5_))
  refine start_ (n := 16) (S := fun w' => w'.cell? ⟨gb102, 0, none⟩ = some (.int .u8 a2_0) ∧ w'.cell? ⟨gb102, 1, none⟩ = some (.int .u8 a2_1)) (ds := []) #[false, false, false, false, false, false, false, false, false, false, false, false, false, false, false, false] (by kernel_rfl) rfl rfl ⟨(blk_cell BK102.out 0).trans rfl, (blk_cell BK102.out 1).trans rfl⟩ (fun hHeld => ?_); refine with_tabW walkmilllaw05_TenterDry.tab2 walkmilllaw05_TenterDry.bits2 (fun HT_ HW_ => ?_)
  generalize w30.drew = w31 at HO105 HO108 HO113 BK101 BK102 BK114 HB hHeld ⊢
  refine pu 0 29 ?_
  refine pu 3 32 ?_
  refine pu 4 33 ?_
  refine pu 5 34 ?_
  refine pu 7 36 ?_
  refine pu 10 39 ?_
  refine pu 11 40 ?_
  refine pu 12 41 ?_
  refine tk 1 30 hHeld ?_
  refine pu 2 31 ?_
  refine pu 6 35 ?_
  refine pu 14 9 ?_
  refine tk 8 37 hHeld ?_
  refine pu 9 38 ?_
  refine pu 13 42 ?_
  refine pu 15 10 ?_
  refine done_ (done_of HT_.out (by kernel_rfl)) ?_
  have hnb33 := NB114_101.out
  have hnc33 := NB101_114.out
  have hnb34 := NB114_102.out
  have hnc34 := NB102_114.out
  obtain ⟨hcz35_0, hcz35_1, hcz35_2, hcz35_3, hfz35_0, hfz35_1, hfz35_2, hfz35_3⟩ := cf4 BK114
  go_upto_region 6 with (first | ((with_reducible refine gc 45 rfl ?_); refine gL 45 Tryz.func45 #[.agg #[.slice Ao24 t103.length co24, .slice Ao26 t106.length co26, .int .i64 t109, .int .i64 t110]] ?_; (with_reducible refine (walkmilllaw05_own.calls _ _ t103 _ _ t106 t109 t110 t115 t118 t121 t122 _ ?side1 ?side2 ?side3 ?side4 A7.out).mono ?_); (case side1 => exact pC (Kd.R_reads' HO105.out).2.2); (case side2 => exact (Kd.R_reads' HO105.out).2.1); (case side3 => exact pC (Kd.R_reads' HO108.out).2.2); (case side4 => exact (Kd.R_reads' HO108.out).2.1); rintro e w36 ⟨v116, v119, rfl, ho0, ho1, hb⟩; refine ⟨_, rfl, ?_⟩; replace HO113 := rb HO113 hb; have HO117 := Aside0.mk (Kd.R_lower (Kd.R_new' ho0 (Kd.R_lt (pR HO105.out))) (below_size (pE HB))); replace HO105 := re HO105 ho0 hb; have HO120 := Aside0.mk (Kd.R_lower (Kd.R_new' ho1 (Kd.R_lt (pR HO108.out))) (below_size (pE HB))); replace HO108 := re HO108 ho1 hb; replace BK101 := bb BK101 hb; replace BK102 := bb BK102 hb; replace BK114 := bb BK114 hb; replace HB := bs HB hb; clear hb ho0 ho1) | ((with_reducible refine gc 46 rfl ?_); refine gL 47 Tryz.func46 #[.slice Ao32 t111.length co32] ?_; (with_reducible refine (walkmilllaw05_spans.calls _ _ t111 t123 _ ?side1 ?side2 A8.out).mono ?_); (case side1 => exact pC (Kd.R_reads' HO113.out).2.2); (case side2 => exact (Kd.R_reads' HO113.out).2.1); rintro e w37 ⟨v124, rfl, ho0, hb⟩; refine ⟨_, rfl, ?_⟩; replace HO105 := rb HO105 hb; replace HO108 := rb HO108 hb; replace HO117 := rb HO117 hb; replace HO120 := rb HO120 hb; have HO125 := Aside0.mk (Kd.R_lower (Kd.R_new' ho0 (Kd.R_lt (pR HO113.out))) (below_size (pE HB))); replace HO113 := re HO113 ho0 hb; replace BK101 := bb BK101 hb; replace BK102 := bb BK102 hb; replace BK114 := bb BK114 hb; replace HB := bs HB hb; clear hb ho0; obtain ⟨Ao38, co38, eo38⟩ := Kd.R_slice HO117.out; subst eo38; obtain ⟨Ao39, co39, eo39⟩ := Kd.R_slice HO120.out; subst eo39; obtain ⟨Ao40, co40, eo40⟩ := Kd.R_slice HO125.out; subst eo40) | ((with_reducible refine gc 34 rfl ?_); refine gL 49 Tryz.func34 #[.agg #[.slice Ao38 t115.length co38, .slice Ao39 t118.length co39, .int .i64 t121, .int .i64 t122], .slice Ao40 t123.length co40, .int .i64 (Int.tmod (wrap64 (a2_0)) (wrap64 ((t111.length : Int) + 1)))] ?_; (with_reducible refine (tenter_Dry.calls k _ _ t115 _ _ t118 t121 t122 _ _ t123 (Int.tmod (wrap64 (a2_0)) (wrap64 ((t111.length : Int) + 1))) t126 t129 _ ?side1 ?side2 ?side3 ?side4 ?side5 ?side6 A9.out).mono ?_); (case side1 => exact pC (Kd.R_reads' HO117.out).2.2); (case side2 => exact (Kd.R_reads' HO117.out).2.1); (case side3 => exact pC (Kd.R_reads' HO120.out).2.2); (case side4 => exact (Kd.R_reads' HO120.out).2.1); (case side5 => exact pC (Kd.R_reads' HO125.out).2.2); (case side6 => exact (Kd.R_reads' HO125.out).2.1); rintro e w41 ⟨v127, rfl, ho0, hb⟩; refine ⟨_, rfl, ?_⟩; replace HO105 := rb HO105 hb; replace HO108 := rb HO108 hb; replace HO117 := rb HO117 hb; replace HO120 := rb HO120 hb; have HO128 := Aside0.mk (Kd.R_lower (Kd.R_new' (Kd.R_new' ho0 (Kd.R_lt (pR HO113.out))) (Kd.R_lt (pR HO125.out))) (below_size (pE HB))); replace HO113 := re HO113 ho0 hb; replace HO125 := re HO125 ho0 hb; replace BK101 := bb BK101 hb; replace BK102 := bb BK102 hb; replace BK114 := bb BK114 hb; replace HB := bs HB hb; clear hb ho0; obtain ⟨hcz42_0, hcz42_1, hcz42_2, hcz42_3, hfz42_0, hfz42_1, hfz42_2, hfz42_3⟩ := cf4 BK114) | ((with_reducible refine gc 45 rfl ?_); refine gL 54 Tryz.func45 #[.agg #[.slice Ao24 t103.length co24, .slice Ao26 t106.length co26, .int .i64 t109, .int .i64 t110]] ?_; (with_reducible refine (walkmilllaw05_own.calls _ _ t103 _ _ t106 t109 t110 t130 t133 t136 t137 _ ?side1 ?side2 ?side3 ?side4 A10.out).mono ?_); (case side1 => exact pC (Kd.R_reads' HO105.out).2.2); (case side2 => exact (Kd.R_reads' HO105.out).2.1); (case side3 => exact pC (Kd.R_reads' HO108.out).2.2); (case side4 => exact (Kd.R_reads' HO108.out).2.1); rintro e w43 ⟨v131, v134, rfl, ho0, ho1, hb⟩; refine ⟨_, rfl, ?_⟩; replace HO113 := rb HO113 hb; replace HO125 := rb HO125 hb; replace HO128 := rb HO128 hb; have HO132 := Aside0.mk (Kd.R_lower (Kd.R_new' (Kd.R_new' ho0 (Kd.R_lt (pR HO105.out))) (Kd.R_lt (pR HO117.out))) (below_size (pE HB))); replace HO105 := re HO105 ho0 hb; replace HO117 := re HO117 ho0 hb; have HO135 := Aside0.mk (Kd.R_lower (Kd.R_new' (Kd.R_new' ho1 (Kd.R_lt (pR HO108.out))) (Kd.R_lt (pR HO120.out))) (below_size (pE HB))); replace HO108 := re HO108 ho1 hb; replace HO120 := re HO120 ho1 hb; replace BK101 := bb BK101 hb; replace BK102 := bb BK102 hb; replace BK114 := bb BK114 hb; replace HB := bs HB hb; clear hb ho0 ho1) | ((with_reducible refine gc 46 rfl ?_); refine gL 56 Tryz.func46 #[.slice Ao32 t111.length co32] ?_; (with_reducible refine (walkmilllaw05_spans.calls _ _ t111 t138 _ ?side1 ?side2 A11.out).mono ?_); (case side1 => exact pC (Kd.R_reads' HO113.out).2.2); (case side2 => exact (Kd.R_reads' HO113.out).2.1); rintro e w44 ⟨v139, rfl, ho0, hb⟩; refine ⟨_, rfl, ?_⟩; replace HO105 := rb HO105 hb; replace HO108 := rb HO108 hb; replace HO117 := rb HO117 hb; replace HO120 := rb HO120 hb; replace HO132 := rb HO132 hb; replace HO135 := rb HO135 hb; have HO140 := Aside0.mk (Kd.R_lower (Kd.R_new' (Kd.R_new' (Kd.R_new' ho0 (Kd.R_lt (pR HO113.out))) (Kd.R_lt (pR HO125.out))) (Kd.R_lt (pR HO128.out))) (below_size (pE HB))); replace HO113 := re HO113 ho0 hb; replace HO125 := re HO125 ho0 hb; replace HO128 := re HO128 ho0 hb; replace BK101 := bb BK101 hb; replace BK102 := bb BK102 hb; replace BK114 := bb BK114 hb; replace HB := bs HB hb; clear hb ho0; obtain ⟨Ao45, co45, eo45⟩ := Kd.R_slice HO132.out; subst eo45; obtain ⟨Ao46, co46, eo46⟩ := Kd.R_slice HO135.out; subst eo46; obtain ⟨Ao47, co47, eo47⟩ := Kd.R_slice HO140.out; subst eo47) | ((with_reducible refine gc 34 rfl ?_); refine gL 57 Tryz.func34 #[.agg #[.slice Ao45 t130.length co45, .slice Ao46 t133.length co46, .int .i64 t136, .int .i64 t137], .slice Ao47 t138.length co47, .int .i64 0] ?_; (with_reducible refine (tenter_Dry.calls k _ _ t130 _ _ t133 t136 t137 _ _ t138 0 t141 t144 _ ?side1 ?side2 ?side3 ?side4 ?side5 ?side6 A12.out).mono ?_); (case side1 => exact pC (Kd.R_reads' HO132.out).2.2); (case side2 => exact (Kd.R_reads' HO132.out).2.1); (case side3 => exact pC (Kd.R_reads' HO135.out).2.2); (case side4 => exact (Kd.R_reads' HO135.out).2.1); (case side5 => exact pC (Kd.R_reads' HO140.out).2.2); (case side6 => exact (Kd.R_reads' HO140.out).2.1); rintro e w48 ⟨v142, rfl, ho0, hb⟩; refine ⟨_, rfl, ?_⟩; replace HO105 := rb HO105 hb; replace HO108 := rb HO108 hb; replace HO117 := rb HO117 hb; replace HO120 := rb HO120 hb; replace HO132 := rb HO132 hb; replace HO135 := rb HO135 hb; have HO143 := Aside0.mk (Kd.R_lower (Kd.R_new' (Kd.R_new' (Kd.R_new' (Kd.R_new' ho0 (Kd.R_lt (pR HO113.out))) (Kd.R_lt (pR HO125.out))) (Kd.R_lt (pR HO128.out))) (Kd.R_lt (pR HO140.out))) (below_size (pE HB))); replace HO113 := re HO113 ho0 hb; replace HO125 := re HO125 ho0 hb; replace HO128 := re HO128 ho0 hb; replace HO140 := re HO140 ho0 hb; replace BK101 := bb BK101 hb; replace BK102 := bb BK102 hb; replace BK114 := bb BK114 hb; replace HB := bs HB hb; clear hb ho0; obtain ⟨hcz49_0, hcz49_1, hcz49_2, hcz49_3, hfz49_0, hfz49_1, hfz49_2, hfz49_3⟩ := cf4 BK114) | ((with_reducible refine gc 45 rfl ?_); refine gL 62 Tryz.func45 #[.agg #[.slice Ao24 t103.length co24, .slice Ao26 t106.length co26, .int .i64 t109, .int .i64 t110]] ?_; (with_reducible refine (walkmilllaw05_own.calls _ _ t103 _ _ t106 t109 t110 t145 t148 t151 t152 _ ?side1 ?side2 ?side3 ?side4 A13.out).mono ?_); (case side1 => exact pC (Kd.R_reads' HO105.out).2.2); (case side2 => exact (Kd.R_reads' HO105.out).2.1); (case side3 => exact pC (Kd.R_reads' HO108.out).2.2); (case side4 => exact (Kd.R_reads' HO108.out).2.1); rintro e w50 ⟨v146, v149, rfl, ho0, ho1, hb⟩; refine ⟨_, rfl, ?_⟩; replace HO113 := rb HO113 hb; replace HO125 := rb HO125 hb; replace HO128 := rb HO128 hb; replace HO140 := rb HO140 hb; replace HO143 := rb HO143 hb; have HO147 := Aside0.mk (Kd.R_lower (Kd.R_new' (Kd.R_new' (Kd.R_new' ho0 (Kd.R_lt (pR HO105.out))) (Kd.R_lt (pR HO117.out))) (Kd.R_lt (pR HO132.out))) (below_size (pE HB))); replace HO105 := re HO105 ho0 hb; replace HO117 := re HO117 ho0 hb; replace HO132 := re HO132 ho0 hb; have HO150 := Aside0.mk (Kd.R_lower (Kd.R_new' (Kd.R_new' (Kd.R_new' ho1 (Kd.R_lt (pR HO108.out))) (Kd.R_lt (pR HO120.out))) (Kd.R_lt (pR HO135.out))) (below_size (pE HB))); replace HO108 := re HO108 ho1 hb; replace HO120 := re HO120 ho1 hb; replace HO135 := re HO135 ho1 hb; replace BK101 := bb BK101 hb; replace BK102 := bb BK102 hb; replace BK114 := bb BK114 hb; replace HB := bs HB hb; clear hb ho0 ho1) | ((with_reducible refine gc 46 rfl ?_); refine gL 64 Tryz.func46 #[.slice Ao32 t111.length co32] ?_; (with_reducible refine (walkmilllaw05_spans.calls _ _ t111 t153 _ ?side1 ?side2 A14.out).mono ?_); (case side1 => exact pC (Kd.R_reads' HO113.out).2.2); (case side2 => exact (Kd.R_reads' HO113.out).2.1); rintro e w51 ⟨v154, rfl, ho0, hb⟩; refine ⟨_, rfl, ?_⟩; replace HO105 := rb HO105 hb; replace HO108 := rb HO108 hb; replace HO117 := rb HO117 hb; replace HO120 := rb HO120 hb; replace HO132 := rb HO132 hb; replace HO135 := rb HO135 hb; replace HO147 := rb HO147 hb; replace HO150 := rb HO150 hb; have HO155 := Aside0.mk (Kd.R_lower (Kd.R_new' (Kd.R_new' (Kd.R_new' (Kd.R_new' (Kd.R_new' ho0 (Kd.R_lt (pR HO113.out))) (Kd.R_lt (pR HO125.out))) (Kd.R_lt (pR HO128.out))) (Kd.R_lt (pR HO140.out))) (Kd.R_lt (pR HO143.out))) (below_size (pE HB))); replace HO113 := re HO113 ho0 hb; replace HO125 := re HO125 ho0 hb; replace HO128 := re HO128 ho0 hb; replace HO140 := re HO140 ho0 hb; replace HO143 := re HO143 ho0 hb; replace BK101 := bb BK101 hb; replace BK102 := bb BK102 hb; replace BK114 := bb BK114 hb; replace HB := bs HB hb; clear hb ho0; obtain ⟨Ao52, co52, eo52⟩ := Kd.R_slice HO147.out; subst eo52; obtain ⟨Ao53, co53, eo53⟩ := Kd.R_slice HO150.out; subst eo53; obtain ⟨Ao54, co54, eo54⟩ := Kd.R_slice HO155.out; subst eo54) | ((with_reducible refine gc 38 rfl ?_); refine gL 66 Tryz.func38 #[.agg #[.slice Ao52 t145.length co52, .slice Ao53 t148.length co53, .int .i64 t151, .int .i64 t152], .slice Ao54 t153.length co54, .int .i64 (Int.tmod (wrap64 (a2_1)) (wrap64 ((t111.length : Int) + 1)))] ?_; (with_reducible refine (tenter_Need.calls k _ _ t145 _ _ t148 t151 t152 _ _ t153 (Int.tmod (wrap64 (a2_1)) (wrap64 ((t111.length : Int) + 1))) t156 t157 _ ?side1 ?side2 ?side3 ?side4 ?side5 ?side6 A15.out).mono ?_); (case side1 => exact pC (Kd.R_reads' HO147.out).2.2); (case side2 => exact (Kd.R_reads' HO147.out).2.1); (case side3 => exact pC (Kd.R_reads' HO150.out).2.2); (case side4 => exact (Kd.R_reads' HO150.out).2.1); (case side5 => exact pC (Kd.R_reads' HO155.out).2.2); (case side6 => exact (Kd.R_reads' HO155.out).2.1); rintro e w55 ⟨rfl, hb⟩; refine ⟨_, rfl, ?_⟩; replace HO105 := rb HO105 hb; replace HO108 := rb HO108 hb; replace HO113 := rb HO113 hb; replace HO117 := rb HO117 hb; replace HO120 := rb HO120 hb; replace HO125 := rb HO125 hb; replace HO128 := rb HO128 hb; replace HO132 := rb HO132 hb; replace HO135 := rb HO135 hb; replace HO140 := rb HO140 hb; replace HO143 := rb HO143 hb; replace HO147 := rb HO147 hb; replace HO150 := rb HO150 hb; replace HO155 := rb HO155 hb; replace BK101 := bb BK101 hb; replace BK102 := bb BK102 hb; replace BK114 := bb BK114 hb; replace HB := bs HB hb; clear hb))
  (try simp only [Act.put, List.setIfInBounds_toArray, List.set_cons_zero, List.set_cons_succ])
  go_cut [115] (fun v115 wc => ∃ (kq : Nat) (x115_15 : Bool), v115 = .bool x115_15 ∧ Aside0 (walkmilllaw05_TenterDry.j0 kq l1 t111 (Int.tmod (wrap64 (a2_0)) (wrap64 ((t111.length : Int) + 1))) (Int.tmod (wrap64 (a2_1)) (wrap64 ((t111.length : Int) + 1))) t126 t141 t156 t157 x115_15 t103 t106 t109 t110 = some r) ∧ Aside0 (kq ≤ k) ∧ Aside0 (Kd.R k36 36 wc w.heap.size (fun k_ => some k_ ≠ (v127 : Value).ownBlock ∧ some k_ ≠ (v142 : Value).ownBlock) (.slice Ao32 t111.length co32) t111) ∧ Aside0 (Kd.R k36 36 wc w.heap.size (fun k_ => some k_ ≠ ((.slice Ao32 t111.length co32) : Value).ownBlock ∧ some k_ ≠ (v142 : Value).ownBlock) v127 t126) ∧ Aside0 (Kd.R k36 36 wc w.heap.size (fun k_ => some k_ ≠ ((.slice Ao32 t111.length co32) : Value).ownBlock ∧ some k_ ≠ (v127 : Value).ownBlock) v142 t141) ∧ Aside0 (Kd.R k43 43 wc w.heap.size (fun _ => True) (.slice Ao24 t103.length co24) t103) ∧ Aside0 (Kd.R (Kd.int .i64) 3 wc w.heap.size (fun _ => True) (.slice Ao26 t106.length co26) t106) ∧ Aside0 (wc.heap[gb101]? = some (.cells #[(.slice A0_0 l0_0.length c0_0), .int .u8 a0_1, .int .u8 a0_2, .int .u8 a0_3, .int .u8 a0_4, .int .u8 a0_5, (.slice A0_6 l0_6.length c0_6)] 79 (0, 0))) ∧ Aside0 (wc.heap[gb102]? = some (.cells #[.int .u8 a2_0, .int .u8 a2_1] 81 (0, 0))) ∧ Aside0 (wc.heap[gb114]? = some (.cells #[(.slice Ao24 t103.length co24), (.slice Ao26 t106.length co26), .int .i64 t109, .int .i64 t110] 25 (0, 0))) ∧ Aside0 (Below w.heap.size w wc))
  case first =>
   have H := HC16.out
   clear HC16
   by_cases c56 : t129 = 0
   ·
    rw [if_pos c56] at H
    have c56b0 : (t129 == 0) = true := beq_iff_eq.mpr c56
    have c56b1 : (t129 != 0) = false := bne_eq_false_iff_eq.mpr c56
    clear c56
    (first | rw [c56b0] | (simp only [i64_w, i32_w]; rw [c56b0]) | skip)
    by_cases c57 : t144 = 0
    ·
     rw [if_pos c57] at H
     have c57b0 : (t144 == 0) = true := beq_iff_eq.mpr c57
     have c57b1 : (t144 != 0) = false := bne_eq_false_iff_eq.mpr c57
     clear c57
     by_cases c58 : t157 = 0
     ·
      rw [if_pos c58] at H
      have c58b0 : (t157 == 0) = true := beq_iff_eq.mpr c58
      have c58b1 : (t157 != 0) = false := bne_eq_false_iff_eq.mpr c58
      clear c58
      by_cases c59 : (t126.length : Int) = (t103.length : Int)
      ·
       rw [if_pos c59] at H
       have c59b0 : ((t126.length : Int) == (t103.length : Int)) = true := beq_iff_eq.mpr c59
       have c59b1 : ((t126.length : Int) != (t103.length : Int)) = false := bne_eq_false_iff_eq.mpr c59
       have c59b2 : (t126.length == t103.length) = true := by first | simpa using c59 | (simp at c59 ⊢; omega)
       clear c59
       by_cases c60 : (t141.length : Int) = (t126.length : Int)
       ·
        rw [if_pos c60] at H
        have c60b0 : ((t141.length : Int) == (t126.length : Int)) = true := beq_iff_eq.mpr c60
        have c60b1 : ((t141.length : Int) != (t126.length : Int)) = false := bne_eq_false_iff_eq.mpr c60
        have c60b2 : (t141.length == t126.length) = true := by first | simpa using c60 | (simp at c60 ⊢; omega)
        clear c60
        by_cases c61 : t156 < 0
        ·
         rw [if_pos c61] at H
         have c61b0 : decide (t156 < 0) = true := decide_eq_true c61
         clear c61
         exact (walkmilllaw05_TenterDry.dead_j0 _ _ _ _ _ _ _ _ _ _ _ _ _ _ H HRT.out).elim
        ·
         rw [if_neg c61] at H
         have c61b0 : decide (t156 < 0) = false := decide_eq_false c61
         clear c61
         have H' := Aside0.mk H
         clear H
         obtain ⟨Ao62, co62, eo62⟩ := Kd.R_slice HO128.out
         subst eo62
         have hnb63 := NB114_101.out
         have hnc63 := NB101_114.out
         have hnb64 := NB114_102.out
         have hnc64 := NB102_114.out
         obtain ⟨hcz65_0, hcz65_1, hcz65_2, hcz65_3, hfz65_0, hfz65_1, hfz65_2, hfz65_3⟩ := cf4 BK114
         obtain ⟨Ao66, co66, eo66⟩ := Kd.R_slice HO143.out
         subst eo66
         go_wp2
         go_meet
         case rel => exact ⟨_, (decide (t156 ≥ (t126.length : Int))), (by first | rfl | (simp; done) | (simp [*]; done)), H', ⟨by first | omega | exact Nat.le_refl _⟩, ⟨by (with_reducible repeat (first | apply Kd.R_alloc | apply Kd.R_drewN | apply Kd.R_drew)); exact Kd.R_mono HO113.out (fun _ hk => ⟨hk.1.1.1.2, hk.1.2⟩)⟩, ⟨by (with_reducible repeat (first | apply Kd.R_alloc | apply Kd.R_drewN | apply Kd.R_drew)); exact Kd.R_mono HO128.out (fun _ hk => ⟨hk.1.1.1.1.2, hk.1.2⟩)⟩, ⟨by (with_reducible repeat (first | apply Kd.R_alloc | apply Kd.R_drewN | apply Kd.R_drew)); exact Kd.R_mono HO143.out (fun _ hk => ⟨hk.1.1.1.1.2, hk.1.1.2⟩)⟩, ⟨by (with_reducible repeat (first | apply Kd.R_alloc | apply Kd.R_drewN | apply Kd.R_drew)); exact Kd.R_mono HO105.out (fun _ hk => trivial)⟩, ⟨by (with_reducible repeat (first | apply Kd.R_alloc | apply Kd.R_drewN | apply Kd.R_drew)); exact Kd.R_mono HO108.out (fun _ hk => trivial)⟩, ⟨by (with_reducible repeat (first | refine blk_drewN ?_ _ | refine blk_drew ?_ | refine blk_alloc ?_ _)); exact BK101.out⟩, ⟨by (with_reducible repeat (first | refine blk_drewN ?_ _ | refine blk_drew ?_ | refine blk_alloc ?_ _)); exact BK102.out⟩, ⟨by (with_reducible repeat (first | refine blk_drewN ?_ _ | refine blk_drew ?_ | refine blk_alloc ?_ _)); exact BK114.out⟩, ⟨pE HB⟩⟩
       ·
        rw [if_neg c60] at H
        have c60b0 : ((t141.length : Int) == (t126.length : Int)) = false := beq_eq_false_iff_ne.mpr c60
        have c60b1 : ((t141.length : Int) != (t126.length : Int)) = true := bne_iff_ne.mpr c60
        have c60b2 : (t141.length == t126.length) = false := by first | simpa using c60 | (simp at c60 ⊢; omega)
        exact (walkmilllaw05_TenterDry.dead_j0 _ _ _ _ _ _ _ _ _ _ _ _ _ _ H HRT.out).elim
      ·
       rw [if_neg c59] at H
       have c59b0 : ((t126.length : Int) == (t103.length : Int)) = false := beq_eq_false_iff_ne.mpr c59
       have c59b1 : ((t126.length : Int) != (t103.length : Int)) = true := bne_iff_ne.mpr c59
       have c59b2 : (t126.length == t103.length) = false := by first | simpa using c59 | (simp at c59 ⊢; omega)
       exact (walkmilllaw05_TenterDry.dead_j0 _ _ _ _ _ _ _ _ _ _ _ _ _ _ H HRT.out).elim
     ·
      rw [if_neg c58] at H
      have c58b0 : (t157 == 0) = false := beq_eq_false_iff_ne.mpr c58
      have c58b1 : (t157 != 0) = true := bne_iff_ne.mpr c58
      by_cases c67 : t157 = 6
      ·
       rw [if_pos c67] at H
       have c67b0 : (t157 == 6) = true := beq_iff_eq.mpr c67
       have c67b1 : (t157 != 6) = false := bne_eq_false_iff_eq.mpr c67
       clear c67
       by_cases c68 : t156 = 0
       ·
        rw [if_pos c68] at H
        have c68b0 : (t156 == 0) = true := beq_iff_eq.mpr c68
        have c68b1 : (t156 != 0) = false := bne_eq_false_iff_eq.mpr c68
        clear c68
        by_cases c69 : (t126.length : Int) = (t103.length : Int)
        ·
         rw [if_pos c69] at H
         have c69b0 : ((t126.length : Int) == (t103.length : Int)) = true := beq_iff_eq.mpr c69
         have c69b1 : ((t126.length : Int) != (t103.length : Int)) = false := bne_eq_false_iff_eq.mpr c69
         have c69b2 : (t126.length == t103.length) = true := by first | simpa using c69 | (simp at c69 ⊢; omega)
         clear c69
         by_cases c70 : (t141.length : Int) = (t126.length : Int)
         ·
          rw [if_pos c70] at H
          have c70b0 : ((t141.length : Int) == (t126.length : Int)) = true := beq_iff_eq.mpr c70
          have c70b1 : ((t141.length : Int) != (t126.length : Int)) = false := bne_eq_false_iff_eq.mpr c70
          have c70b2 : (t141.length == t126.length) = true := by first | simpa using c70 | (simp at c70 ⊢; omega)
          clear c70
          have H' := Aside0.mk H
          clear H
          obtain ⟨Ao71, co71, eo71⟩ := Kd.R_slice HO128.out
          subst eo71
          have hnb72 := NB114_101.out
          have hnc72 := NB101_114.out
          have hnb73 := NB114_102.out
          have hnc73 := NB102_114.out
          obtain ⟨hcz74_0, hcz74_1, hcz74_2, hcz74_3, hfz74_0, hfz74_1, hfz74_2, hfz74_3⟩ := cf4 BK114
          obtain ⟨Ao75, co75, eo75⟩ := Kd.R_slice HO143.out
          subst eo75
          go_wp2
          go_meet
          case rel => exact ⟨_, (false), (by first | rfl | (simp; done) | (simp [*]; done)), H', ⟨by first | omega | exact Nat.le_refl _⟩, ⟨by (with_reducible repeat (first | apply Kd.R_alloc | apply Kd.R_drewN | apply Kd.R_drew)); exact Kd.R_mono HO113.out (fun _ hk => ⟨hk.1.1.1.2, hk.1.2⟩)⟩, ⟨by (with_reducible repeat (first | apply Kd.R_alloc | apply Kd.R_drewN | apply Kd.R_drew)); exact Kd.R_mono HO128.out (fun _ hk => ⟨hk.1.1.1.1.2, hk.1.2⟩)⟩, ⟨by (with_reducible repeat (first | apply Kd.R_alloc | apply Kd.R_drewN | apply Kd.R_drew)); exact Kd.R_mono HO143.out (fun _ hk => ⟨hk.1.1.1.1.2, hk.1.1.2⟩)⟩, ⟨by (with_reducible repeat (first | apply Kd.R_alloc | apply Kd.R_drewN | apply Kd.R_drew)); exact Kd.R_mono HO105.out (fun _ hk => trivial)⟩, ⟨by (with_reducible repeat (first | apply Kd.R_alloc | apply Kd.R_drewN | apply Kd.R_drew)); exact Kd.R_mono HO108.out (fun _ hk => trivial)⟩, ⟨by (with_reducible repeat (first | refine blk_drewN ?_ _ | refine blk_drew ?_ | refine blk_alloc ?_ _)); exact BK101.out⟩, ⟨by (with_reducible repeat (first | refine blk_drewN ?_ _ | refine blk_drew ?_ | refine blk_alloc ?_ _)); exact BK102.out⟩, ⟨by (with_reducible repeat (first | refine blk_drewN ?_ _ | refine blk_drew ?_ | refine blk_alloc ?_ _)); exact BK114.out⟩, ⟨pE HB⟩⟩
         ·
          rw [if_neg c70] at H
          have c70b0 : ((t141.length : Int) == (t126.length : Int)) = false := beq_eq_false_iff_ne.mpr c70
          have c70b1 : ((t141.length : Int) != (t126.length : Int)) = true := bne_iff_ne.mpr c70
          have c70b2 : (t141.length == t126.length) = false := by first | simpa using c70 | (simp at c70 ⊢; omega)
          exact (walkmilllaw05_TenterDry.dead_j0 _ _ _ _ _ _ _ _ _ _ _ _ _ _ H HRT.out).elim
        ·
         rw [if_neg c69] at H
         have c69b0 : ((t126.length : Int) == (t103.length : Int)) = false := beq_eq_false_iff_ne.mpr c69
         have c69b1 : ((t126.length : Int) != (t103.length : Int)) = true := bne_iff_ne.mpr c69
         have c69b2 : (t126.length == t103.length) = false := by first | simpa using c69 | (simp at c69 ⊢; omega)
         exact (walkmilllaw05_TenterDry.dead_j0 _ _ _ _ _ _ _ _ _ _ _ _ _ _ H HRT.out).elim
       ·
        rw [if_neg c68] at H
        have c68b0 : (t156 == 0) = false := beq_eq_false_iff_ne.mpr c68
        have c68b1 : (t156 != 0) = true := bne_iff_ne.mpr c68
        exact (walkmilllaw05_TenterDry.dead_j0 _ _ _ _ _ _ _ _ _ _ _ _ _ _ H HRT.out).elim
      ·
       rw [if_neg c67] at H
       have c67b0 : (t157 == 6) = false := beq_eq_false_iff_ne.mpr c67
       have c67b1 : (t157 != 6) = true := bne_iff_ne.mpr c67
       exact (walkmilllaw05_TenterDry.dead_j0 _ _ _ _ _ _ _ _ _ _ _ _ _ _ H HRT.out).elim
    ·
     rw [if_neg c57] at H
     have c57b0 : (t144 == 0) = false := beq_eq_false_iff_ne.mpr c57
     have c57b1 : (t144 != 0) = true := bne_iff_ne.mpr c57
     exact (walkmilllaw05_TenterDry.dead_j0 _ _ _ _ _ _ _ _ _ _ _ _ _ _ H HRT.out).elim
   ·
    rw [if_neg c56] at H
    have c56b0 : (t129 == 0) = false := beq_eq_false_iff_ne.mpr c56
    have c56b1 : (t129 != 0) = true := bne_iff_ne.mpr c56
    (first | rw [c56b0] | (simp only [i64_w, i32_w]; rw [c56b0]) | skip)
    exact (walkmilllaw05_TenterDry.dead_j0 _ _ _ _ _ _ _ _ _ _ _ _ _ _ H HRT.out).elim
  case rest =>
   as_aux_lemma =>
   clear HC16
   try clear p2
   try clear c3
   try clear c4
   try clear c5
   try clear c6
   try clear p6
   try clear c7
   try clear c33
   try clear c34
   try clear c38
   try clear c43
   try clear c44
   try clear c45
   try clear c46
   try clear c56
   try clear c56b0
   try clear c56b1
   try clear c57
   try clear c57b0
   try clear c57b1
   try clear c58
   try clear c58b0
   try clear c58b1
   try clear c59
   try clear c59b0
   try clear c59b1
   try clear c59b2
   try clear c60
   try clear c60b0
   try clear c60b1
   try clear c60b2
   try clear c61
   try clear c61b0
   try clear c63
   try clear c64
   try clear p64
   try clear c67
   try clear c67b0
   try clear c67b1
   try clear c68
   try clear c68b0
   try clear c68b1
   try clear c69
   try clear c69b0
   try clear c69b1
   try clear c69b2
   try clear c70
   try clear c70b0
   try clear c70b1
   try clear c70b2
   try clear c72
   try clear c73
   try clear hcz35_0
   try clear hcz35_1
   try clear hcz35_2
   try clear hcz35_3
   try clear hcz42_0
   try clear hcz42_1
   try clear hcz42_2
   try clear hcz42_3
   try clear hcz49_0
   try clear hcz49_1
   try clear hcz49_2
   try clear hcz49_3
   try clear hcz65_0
   try clear hcz65_1
   try clear hcz65_2
   try clear hcz65_3
   try clear hcz74_0
   try clear hcz74_1
   try clear hcz74_2
   try clear hcz74_3
   try clear hfz35_0
   try clear hfz35_1
   try clear hfz35_2
   try clear hfz35_3
   try clear hfz42_0
   try clear hfz42_1
   try clear hfz42_2
   try clear hfz42_3
   try clear hfz49_0
   try clear hfz49_1
   try clear hfz49_2
   try clear hfz49_3
   try clear hfz65_0
   try clear hfz65_1
   try clear hfz65_2
   try clear hfz65_3
   try clear hfz74_0
   try clear hfz74_1
   try clear hfz74_2
   try clear hfz74_3
   obtain ⟨kq, x115_15, rfl, HA, HJ15, HO_8, HO_11, HO_13, HO_115000, HO_115001, BK101, BK102, BK114, HB⟩ := hcut
   cases kq with
   | zero => exact absurd HA.out (by simp [walkmilllaw05_TenterDry.j0])
   | succ kj15 =>
    have H := HA.out
    clear HA
    simp only [walkmilllaw05_TenterDry.j0] at H
    by_cases c76 : x115_15 = true
    ·
     subst c76
     rw [if_pos rfl] at H
     exact absurd ((Option.some.inj H).trans HRT.out) (by simp)
    ·
     replace c76 := Bool.eq_false_iff.mpr c76
     subst c76
     rw [if_neg (show ¬ (false = true) by decide)] at H
     have H' := Aside0.mk H
     clear H
     go_wp2
     go_loopg [17] kj15 (fun kq v17 w' => ∃ (x17_2 : Int), v17 = .int .i64 x17_2 ∧ Aside0 (walkmilllaw05_TenterDry.l0 kq l1 t111 (Int.tmod (wrap64 (a2_0)) (wrap64 ((t111.length : Int) + 1))) (Int.tmod (wrap64 (a2_1)) (wrap64 ((t111.length : Int) + 1))) t126 t141 t156 t157 x17_2 t103 t106 t109 t110 = some r) ∧ Aside0 (kq ≤ kj15) ∧ Aside0 (Kd.R k36 36 w' w.heap.size (fun k_ => some k_ ≠ (v127 : Value).ownBlock ∧ some k_ ≠ (v142 : Value).ownBlock) (.slice Ao32 t111.length co32) t111) ∧ Aside0 (Kd.R k36 36 w' w.heap.size (fun k_ => some k_ ≠ ((.slice Ao32 t111.length co32) : Value).ownBlock ∧ some k_ ≠ (v142 : Value).ownBlock) v127 t126) ∧ Aside0 (Kd.R k36 36 w' w.heap.size (fun k_ => some k_ ≠ ((.slice Ao32 t111.length co32) : Value).ownBlock ∧ some k_ ≠ (v127 : Value).ownBlock) v142 t141) ∧ Aside0 (Kd.R k43 43 w' w.heap.size (fun _ => True) (.slice Ao24 t103.length co24) t103) ∧ Aside0 (Kd.R (Kd.int .i64) 3 w' w.heap.size (fun _ => True) (.slice Ao26 t106.length co26) t106) ∧ Aside0 (w'.heap[gb101]? = some (.cells #[(.slice A0_0 l0_0.length c0_0), .int .u8 a0_1, .int .u8 a0_2, .int .u8 a0_3, .int .u8 a0_4, .int .u8 a0_5, (.slice A0_6 l0_6.length c0_6)] 79 (0, 0))) ∧ Aside0 (w'.heap[gb102]? = some (.cells #[.int .u8 a2_0, .int .u8 a2_1] 81 (0, 0))) ∧ Aside0 (w'.heap[gb114]? = some (.cells #[(.slice Ao24 t103.length co24), (.slice Ao26 t106.length co26), .int .i64 t109, .int .i64 t110] 25 (0, 0))) ∧ Aside0 (Below w.heap.size w w'))
     case atStart => exact ⟨(0), (by first | rfl | (simp; done) | (simp [*]; done)), H', ⟨Nat.le_refl _⟩, ⟨by (with_reducible repeat (first | apply Kd.R_alloc | apply Kd.R_drewN | apply Kd.R_drew)); exact HO_8.out⟩, ⟨by (with_reducible repeat (first | apply Kd.R_alloc | apply Kd.R_drewN | apply Kd.R_drew)); exact HO_11.out⟩, ⟨by (with_reducible repeat (first | apply Kd.R_alloc | apply Kd.R_drewN | apply Kd.R_drew)); exact HO_13.out⟩, ⟨by (with_reducible repeat (first | apply Kd.R_alloc | apply Kd.R_drewN | apply Kd.R_drew)); exact HO_115000.out⟩, ⟨by (with_reducible repeat (first | apply Kd.R_alloc | apply Kd.R_drewN | apply Kd.R_drew)); exact HO_115001.out⟩, ⟨by (with_reducible repeat (first | refine blk_drewN ?_ _ | refine blk_drew ?_ | refine blk_alloc ?_ _)); exact BK101.out⟩, ⟨by (with_reducible repeat (first | refine blk_drewN ?_ _ | refine blk_drew ?_ | refine blk_alloc ?_ _)); exact BK102.out⟩, ⟨by (with_reducible repeat (first | refine blk_drewN ?_ _ | refine blk_drew ?_ | refine blk_alloc ?_ _)); exact BK114.out⟩, ⟨pE HB⟩⟩
     case round =>
      as_aux_lemma =>
      clear H'
      try clear p2
      try clear c3
      try clear c4
      try clear c5
      try clear c6
      try clear p6
      try clear c7
      try clear c33
      try clear c34
      try clear c38
      try clear c43
      try clear c44
      try clear c45
      try clear c46
      try clear c56
      try clear c56b0
      try clear c56b1
      try clear c57
      try clear c57b0
      try clear c57b1
      try clear c58
      try clear c58b0
      try clear c58b1
      try clear c59
      try clear c59b0
      try clear c59b1
      try clear c59b2
      try clear c60
      try clear c60b0
      try clear c60b1
      try clear c60b2
      try clear c61
      try clear c61b0
      try clear c63
      try clear c64
      try clear p64
      try clear c67
      try clear c67b0
      try clear c67b1
      try clear c68
      try clear c68b0
      try clear c68b1
      try clear c69
      try clear c69b0
      try clear c69b1
      try clear c69b2
      try clear c70
      try clear c70b0
      try clear c70b1
      try clear c70b2
      try clear c72
      try clear c73
      try clear c76
      try clear hcz35_0
      try clear hcz35_1
      try clear hcz35_2
      try clear hcz35_3
      try clear hcz42_0
      try clear hcz42_1
      try clear hcz42_2
      try clear hcz42_3
      try clear hcz49_0
      try clear hcz49_1
      try clear hcz49_2
      try clear hcz49_3
      try clear hcz65_0
      try clear hcz65_1
      try clear hcz65_2
      try clear hcz65_3
      try clear hcz74_0
      try clear hcz74_1
      try clear hcz74_2
      try clear hcz74_3
      try clear hfz35_0
      try clear hfz35_1
      try clear hfz35_2
      try clear hfz35_3
      try clear hfz42_0
      try clear hfz42_1
      try clear hfz42_2
      try clear hfz42_3
      try clear hfz49_0
      try clear hfz49_1
      try clear hfz49_2
      try clear hfz49_3
      try clear hfz65_0
      try clear hfz65_1
      try clear hfz65_2
      try clear hfz65_3
      try clear hfz74_0
      try clear hfz74_1
      try clear hfz74_2
      try clear hfz74_3
      try clear p2
      try clear p6
      try clear p64
      obtain ⟨x17_2, rfl, HA, HK2, HO_8, HO_11, HO_13, HO_115000, HO_115001, BK101, BK102, BK114, HB⟩ := hrel
      cases gk with
      | zero => exact absurd HA.out (by simp [walkmilllaw05_TenterDry.l0])
      | succ k2 =>
       have H := HA.out
       clear HA
       simp only [walkmilllaw05_TenterDry.l0] at H
       by_cases c77 : x17_2 < (t126.length : Int)
       ·
        rw [if_pos c77] at H
        have c77b0 : decide (x17_2 < (t126.length : Int)) = true := decide_eq_true c77
        clear c77
        by_cases c78 : 0 ≤ x17_2
        ·
         rw [if_pos c78] at H
         have c78b0 : decide (0 ≤ x17_2) = true := decide_eq_true c78
         clear c78
         by_cases c79 : x17_2 < (t103.length : Int)
         ·
          rw [if_pos c79] at H
          have c79b0 : decide (x17_2 < (t103.length : Int)) = true := decide_eq_true c79
          clear c79
          obtain ⟨t160, A80, H⟩ := bi H
          obtain ⟨t161, A81, H⟩ := bi H
          have HC82 := Aside0.mk H
          clear H
          obtain ⟨Ao83, co83, eo83⟩ := Kd.R_slice HO_11.out
          subst eo83
          try go_wp2
          replace HO_8 := Aside0.mk (Kd.R_drew HO_8.out)
          replace HO_11 := Aside0.mk (Kd.R_drew HO_11.out)
          replace HO_13 := Aside0.mk (Kd.R_drew HO_13.out)
          replace HO_115000 := Aside0.mk (Kd.R_drew HO_115000.out)
          replace HO_115001 := Aside0.mk (Kd.R_drew HO_115001.out)
          replace BK101 := Aside0.mk (blk_drew BK101.out)
          replace BK102 := Aside0.mk (blk_drew BK102.out)
          replace BK114 := Aside0.mk (blk_drew BK114.out)
          replace HB := Aside0.mk (below_drew1 HB.out)
          have p159 : 0 ≤ (x17_2 : Int) := dT
          have q159 : x17_2 < (t103.length : Int) := dT
          obtain ⟨ad159, e159, hx159_0, hx159_1, hx159_2, hx159_3⟩ := at_T43 (Kd.R_reads' HO_115000.out).2.2 x17_2 p159 q159
          cases e159
          replace p159 := eq_true p159
          replace q159 := eq_true q159
          refine start_ (n := 14) (S := fun w' => w'.cell? ⟨gb114, 0, none⟩ = some (.slice (some ad159) t103.length co24) ∧ w'.cell? ⟨gb114, 1, none⟩ = some (.slice Ao26 t106.length co26) ∧ w'.cell? ⟨gb114, 2, none⟩ = some (.int .i64 t109) ∧ w'.cell? ⟨gb114, 3, none⟩ = some (.int .i64 t110) ∧ w'.cell? (ad159.add ((x17_2).toNat * 4)) = some (.int .i64 ((rd_T43 t103 x17_2).f0.f0)) ∧ w'.cell? ⟨(ad159.add ((x17_2).toNat * 4)).block, (ad159.add ((x17_2).toNat * 4)).off + 1, none⟩ = some (.int .i64 ((rd_T43 t103 x17_2).f0.f1)) ∧ w'.cell? ⟨(ad159.add ((x17_2).toNat * 4)).block, (ad159.add ((x17_2).toNat * 4)).off + 2, none⟩ = some (.int .i64 ((rd_T43 t103 x17_2).f1.f0)) ∧ w'.cell? ⟨(ad159.add ((x17_2).toNat * 4)).block, (ad159.add ((x17_2).toNat * 4)).off + 3, none⟩ = some (.int .i64 ((rd_T43 t103 x17_2).f1.f1))) (ds := []) #[false, false, false, false, false, false, false, false, false, false, false, false, false, false] (by kernel_rfl) rfl rfl ⟨(blk_cell BK114.out 0).trans rfl, (blk_cell BK114.out 1).trans rfl, (blk_cell BK114.out 2).trans rfl, (blk_cell BK114.out 3).trans rfl, hx159_0, hx159_1, hx159_2, hx159_3⟩ (fun hHeld => ?_); refine with_tabW walkmilllaw05_TenterDry.tab11 walkmilllaw05_TenterDry.bits11 (fun HT_ HW_ => ?_)
          generalize wr.drew = w84 at HO_8 HO_11 HO_13 HO_115000 HO_115001 BK101 BK102 BK114 HB hx159_0 hx159_1 hx159_2 hx159_3 hHeld ⊢
          refine pu 0 122 ?_
          refine pu 2 124 ?_
          refine pu 6 128 ?_
          refine pu 7 129 ?_
          refine pu 8 130 ?_
          refine pu 11 133 ?_
          refine tk 1 123 hHeld ?_
          refine pu 3 125 ?_
          refine pu 4 126 ?_
          refine tk 5 127 hHeld ?_
          refine on 9 (fun K hK => ?_)
          refine gO Tryz.func48 #[.slice A1 l1.length c1, .int .i64 (wrap64 (20 + x17_2))] ?_
          with_reducible refine (walkmilllaw05_byteOf.calls _ _ l1 (wrap64 (20 + x17_2)) t160 _ ?side1 ?side2 A80.out).mono ?_
          (case side1 => exact pC (Kd.C_below HR1.out HB.out))
          (case side2 => exact HC1.out)
          rintro e w' ⟨rfl, ⟨nd, rfl⟩⟩
          refine ⟨_, rfl, ?_⟩
          refine hK.out _ _ ⟨(blk_cell BK114.out 0).trans rfl, (blk_cell BK114.out 1).trans rfl, (blk_cell BK114.out 2).trans rfl, (blk_cell BK114.out 3).trans rfl, hHeld.2.2.2.2.1, hHeld.2.2.2.2.2.1, hHeld.2.2.2.2.2.2.1, hHeld.2.2.2.2.2.2.2⟩ (fun hHeld => ?_)
          clear hK K
          refine norm_ (a' := ?_) ?_ ?_
          rotate_left
          ·
           show Act.put _ (some 131) _ = _
           simp only [Act.put, List.setIfInBounds_toArray, List.set_cons_zero, List.set_cons_succ, i64_w, i32_w]
           rfl
          refine on 10 (fun K hK => ?_)
          refine gO Tryz.func47 #[.agg #[.int .i64 ((rd_T43 t103 x17_2).f1.f0), .int .i64 ((rd_T43 t103 x17_2).f1.f1)], .int .i64 t160] ?_
          with_reducible refine (walkmilllaw05_inside.calls ((rd_T43 t103 x17_2).f1.f0) ((rd_T43 t103 x17_2).f1.f1) t160 t161 _ A81.out).mono ?_
          rintro e w85 ⟨rfl, hb⟩
          have HS4_ := (hb.cell (World.block_lt_of_cell? _ _ (hHeld.2.2.2.2.1))).trans (hHeld.2.2.2.2.1)
          have HS5_ := (hb.cell (World.block_lt_of_cell? _ _ (hHeld.2.2.2.2.2.1))).trans (hHeld.2.2.2.2.2.1)
          have HS6_ := (hb.cell (World.block_lt_of_cell? _ _ (hHeld.2.2.2.2.2.2.1))).trans (hHeld.2.2.2.2.2.2.1)
          have HS7_ := (hb.cell (World.block_lt_of_cell? _ _ (hHeld.2.2.2.2.2.2.2))).trans (hHeld.2.2.2.2.2.2.2)
          refine ⟨_, rfl, ?_⟩
          replace HO_8 := rb HO_8 hb
          replace HO_11 := rb HO_11 hb
          replace HO_13 := rb HO_13 hb
          replace HO_115000 := rb HO_115000 hb
          replace HO_115001 := rb HO_115001 hb
          replace BK101 := bb BK101 hb
          replace BK102 := bb BK102 hb
          replace BK114 := bb BK114 hb
          replace HB := bs HB hb
          (try clear hb)
          (try clear hb2)
          (try clear hk)
          (try clear hi)
          refine hK.out _ _ ⟨(blk_cell BK114.out 0).trans rfl, (blk_cell BK114.out 1).trans rfl, (blk_cell BK114.out 2).trans rfl, (blk_cell BK114.out 3).trans rfl, HS4_, HS5_, HS6_, HS7_⟩ (fun hHeld => ?_)
          clear hK K
          refine norm_ (a' := ?_) ?_ ?_
          rotate_left
          ·
           show Act.put _ (some 132) _ = _
           simp only [Act.put, List.setIfInBounds_toArray, List.set_cons_zero, List.set_cons_succ, i64_w, i32_w]
           rfl
          refine pu 12 18 ?_
          refine pu 13 19 ?_
          refine done_ (done_of HT_.out (by kernel_rfl)) ?_
          go_upto_block 2 with (fail)
          go_cut [19] (fun v19 wc => ∃ (kq : Nat) (x19_81 : Int), v19 = .int .i64 x19_81 ∧ Aside0 (walkmilllaw05_TenterDry.j3 kq l1 t111 (Int.tmod (wrap64 (a2_0)) (wrap64 ((t111.length : Int) + 1))) (Int.tmod (wrap64 (a2_1)) (wrap64 ((t111.length : Int) + 1))) t126 t141 t156 t157 x17_2 x19_81 t103 t106 t109 t110 = some r) ∧ Aside0 (kq ≤ k2) ∧ Aside0 (Kd.R k36 36 wc w.heap.size (fun k_ => some k_ ≠ ((.slice Ao83 t126.length co83) : Value).ownBlock ∧ some k_ ≠ (v142 : Value).ownBlock) (.slice Ao32 t111.length co32) t111) ∧ Aside0 (Kd.R k36 36 wc w.heap.size (fun k_ => some k_ ≠ ((.slice Ao32 t111.length co32) : Value).ownBlock ∧ some k_ ≠ (v142 : Value).ownBlock) (.slice Ao83 t126.length co83) t126) ∧ Aside0 (Kd.R k36 36 wc w.heap.size (fun k_ => some k_ ≠ ((.slice Ao32 t111.length co32) : Value).ownBlock ∧ some k_ ≠ ((.slice Ao83 t126.length co83) : Value).ownBlock) v142 t141) ∧ Aside0 (Kd.R k43 43 wc w.heap.size (fun _ => True) (.slice (some ad159) t103.length co24) t103) ∧ Aside0 (Kd.R (Kd.int .i64) 3 wc w.heap.size (fun _ => True) (.slice Ao26 t106.length co26) t106) ∧ Aside0 (wc.heap[gb101]? = some (.cells #[(.slice A0_0 l0_0.length c0_0), .int .u8 a0_1, .int .u8 a0_2, .int .u8 a0_3, .int .u8 a0_4, .int .u8 a0_5, (.slice A0_6 l0_6.length c0_6)] 79 (0, 0))) ∧ Aside0 (wc.heap[gb102]? = some (.cells #[.int .u8 a2_0, .int .u8 a2_1] 81 (0, 0))) ∧ Aside0 (wc.heap[gb114]? = some (.cells #[(.slice (some ad159) t103.length co24), (.slice Ao26 t106.length co26), .int .i64 t109, .int .i64 t110] 25 (0, 0))) ∧ Aside0 (Below w.heap.size w wc))
          case first =>
           have H := HC82.out
           clear HC82
           have H' := Aside0.mk H
           clear H
           go_wp2
           go_loopg [19] k2 (fun kq v19 w' => ∃ (x19_3 : Int), v19 = .int .i64 x19_3 ∧ Aside0 (walkmilllaw05_TenterDry.l1 kq l1 t111 (Int.tmod (wrap64 (a2_0)) (wrap64 ((t111.length : Int) + 1))) (Int.tmod (wrap64 (a2_1)) (wrap64 ((t111.length : Int) + 1))) t126 t141 t156 t157 x17_2 t161 x19_3 t103 t106 t109 t110 = some r) ∧ Aside0 (kq ≤ k2) ∧ Aside0 (Kd.R k36 36 w' w.heap.size (fun k_ => some k_ ≠ ((.slice Ao83 t126.length co83) : Value).ownBlock ∧ some k_ ≠ (v142 : Value).ownBlock) (.slice Ao32 t111.length co32) t111) ∧ Aside0 (Kd.R k36 36 w' w.heap.size (fun k_ => some k_ ≠ ((.slice Ao32 t111.length co32) : Value).ownBlock ∧ some k_ ≠ (v142 : Value).ownBlock) (.slice Ao83 t126.length co83) t126) ∧ Aside0 (Kd.R k36 36 w' w.heap.size (fun k_ => some k_ ≠ ((.slice Ao32 t111.length co32) : Value).ownBlock ∧ some k_ ≠ ((.slice Ao83 t126.length co83) : Value).ownBlock) v142 t141) ∧ Aside0 (Kd.R k43 43 w' w.heap.size (fun _ => True) (.slice (some ad159) t103.length co24) t103) ∧ Aside0 (Kd.R (Kd.int .i64) 3 w' w.heap.size (fun _ => True) (.slice Ao26 t106.length co26) t106) ∧ Aside0 (w'.heap[gb101]? = some (.cells #[(.slice A0_0 l0_0.length c0_0), .int .u8 a0_1, .int .u8 a0_2, .int .u8 a0_3, .int .u8 a0_4, .int .u8 a0_5, (.slice A0_6 l0_6.length c0_6)] 79 (0, 0))) ∧ Aside0 (w'.heap[gb102]? = some (.cells #[.int .u8 a2_0, .int .u8 a2_1] 81 (0, 0))) ∧ Aside0 (w'.heap[gb114]? = some (.cells #[(.slice (some ad159) t103.length co24), (.slice Ao26 t106.length co26), .int .i64 t109, .int .i64 t110] 25 (0, 0))) ∧ Aside0 (Below w.heap.size w w'))
           case atStart => exact ⟨((Int.tmod (wrap64 (a2_0)) (wrap64 ((t111.length : Int) + 1)))), (by first | rfl | (simp; done) | (simp [*]; done)), H', ⟨Nat.le_refl _⟩, ⟨by (with_reducible repeat (first | apply Kd.R_alloc | apply Kd.R_drewN | apply Kd.R_drew)); exact HO_8.out⟩, ⟨by (with_reducible repeat (first | apply Kd.R_alloc | apply Kd.R_drewN | apply Kd.R_drew)); exact HO_11.out⟩, ⟨by (with_reducible repeat (first | apply Kd.R_alloc | apply Kd.R_drewN | apply Kd.R_drew)); exact HO_13.out⟩, ⟨by (with_reducible repeat (first | apply Kd.R_alloc | apply Kd.R_drewN | apply Kd.R_drew)); exact HO_115000.out⟩, ⟨by (with_reducible repeat (first | apply Kd.R_alloc | apply Kd.R_drewN | apply Kd.R_drew)); exact HO_115001.out⟩, ⟨by (with_reducible repeat (first | refine blk_drewN ?_ _ | refine blk_drew ?_ | refine blk_alloc ?_ _)); exact BK101.out⟩, ⟨by (with_reducible repeat (first | refine blk_drewN ?_ _ | refine blk_drew ?_ | refine blk_alloc ?_ _)); exact BK102.out⟩, ⟨by (with_reducible repeat (first | refine blk_drewN ?_ _ | refine blk_drew ?_ | refine blk_alloc ?_ _)); exact BK114.out⟩, ⟨pE HB⟩⟩
           case round =>
            as_aux_lemma =>
            clear H'
            try clear c1
            try clear p1
            try clear q1
            try clear hx1
            try clear p2
            try clear c3
            try clear c4
            try clear c5
            try clear c6
            try clear p6
            try clear c7
            try clear p15
            try clear q15
            try clear hx15
            try clear c33
            try clear c34
            try clear c38
            try clear c43
            try clear c44
            try clear c45
            try clear c46
            try clear c47
            try clear c48
            try clear c56
            try clear c56b0
            try clear c56b1
            try clear c57
            try clear c57b0
            try clear c57b1
            try clear c58
            try clear c58b0
            try clear c58b1
            try clear c59
            try clear c59b0
            try clear c59b1
            try clear c59b2
            try clear c60
            try clear c60b0
            try clear c60b1
            try clear c60b2
            try clear c61
            try clear c61b0
            try clear c63
            try clear c64
            try clear p64
            try clear c67
            try clear c67b0
            try clear c67b1
            try clear c68
            try clear c68b0
            try clear c68b1
            try clear c69
            try clear c69b0
            try clear c69b1
            try clear c69b2
            try clear c70
            try clear c70b0
            try clear c70b1
            try clear c70b2
            try clear c72
            try clear c73
            try clear c76
            try clear c77
            try clear c77b0
            try clear c78
            try clear c78b0
            try clear c79
            try clear c79b0
            try clear hcz35_0
            try clear hcz35_1
            try clear hcz35_2
            try clear hcz35_3
            try clear hcz42_0
            try clear hcz42_1
            try clear hcz42_2
            try clear hcz42_3
            try clear hcz49_0
            try clear hcz49_1
            try clear hcz49_2
            try clear hcz49_3
            try clear hcz65_0
            try clear hcz65_1
            try clear hcz65_2
            try clear hcz65_3
            try clear hcz74_0
            try clear hcz74_1
            try clear hcz74_2
            try clear hcz74_3
            try clear hfz35_0
            try clear hfz35_1
            try clear hfz35_2
            try clear hfz35_3
            try clear hfz42_0
            try clear hfz42_1
            try clear hfz42_2
            try clear hfz42_3
            try clear hfz49_0
            try clear hfz49_1
            try clear hfz49_2
            try clear hfz49_3
            try clear hfz65_0
            try clear hfz65_1
            try clear hfz65_2
            try clear hfz65_3
            try clear hfz74_0
            try clear hfz74_1
            try clear hfz74_2
            try clear hfz74_3
            try clear hx159_0
            try clear hx159_1
            try clear hx159_2
            try clear hx159_3
            try clear p159
            try clear p2
            try clear p6
            try clear p64
            try clear q159
            obtain ⟨x19_3, rfl, HA, HK3, HO_8, HO_11, HO_13, HO_115000, HO_115001, BK101, BK102, BK114, HB⟩ := hrel
            cases gk with
            | zero => exact absurd HA.out (by simp [walkmilllaw05_TenterDry.l1])
            | succ k3 =>
             have H := HA.out
             clear HA
             simp only [walkmilllaw05_TenterDry.l1] at H
             by_cases c86 : x19_3 ≤ (t111.length : Int)
             ·
              rw [if_pos c86] at H
              have c86b0 : decide (x19_3 ≤ (t111.length : Int)) = true := decide_eq_true c86
              clear c86
              (first | rw [c86b0] | (simp only [i64_w, i32_w]; rw [c86b0]) | skip)
              obtain ⟨t162, A87, H⟩ := bi H
              by_cases c88 : t162 < t161
              ·
               rw [if_pos c88] at H
               have c88b0 : decide (t162 < t161) = true := decide_eq_true c88
               clear c88
               have H' := Aside0.mk H
               clear H
               go_wp2_with (first | (go_at_call 49; (with_reducible refine (walkmilllaw05_dried.calls k3 _ _ t111 (Int.tmod (wrap64 (a2_0)) (wrap64 ((t111.length : Int) + 1))) x19_3 _ _ l1 t162 _ ?side1 ?side2 ?side3 ?side4 A87.out).mono ?_); (case side1 => exact pC (Kd.R_reads' HO_8.out).2.2); (case side2 => exact (Kd.R_reads' HO_8.out).2.1); (case side3 => exact pC (Kd.C_below HR1.out HB.out)); (case side4 => exact HC1.out); rintro e w89 ⟨rfl, hb⟩; replace HO_8 := rb HO_8 hb; replace HO_11 := rb HO_11 hb; replace HO_13 := rb HO_13 hb; replace HO_115000 := rb HO_115000 hb; replace HO_115001 := rb HO_115001 hb; replace BK101 := bb BK101 hb; replace BK102 := bb BK102 hb; replace BK114 := bb BK114 hb; replace HB := bs HB hb; (try clear hb); (try clear hb2); (try clear hk); (try clear hi)))
               go_roundg k3
               case measure => have := HJ15.out; have := HK2.out; have := HK3.out; omega
               case rel => exact ⟨(wrap64 (x19_3 + 1)), (by first | rfl | (simp; done) | (simp [*]; done)), H', ⟨by have := HJ15.out; have := HK2.out; have := HK3.out; omega⟩, ⟨by (with_reducible repeat (first | apply Kd.R_alloc | apply Kd.R_drewN | apply Kd.R_drew)); exact HO_8.out⟩, ⟨by (with_reducible repeat (first | apply Kd.R_alloc | apply Kd.R_drewN | apply Kd.R_drew)); exact HO_11.out⟩, ⟨by (with_reducible repeat (first | apply Kd.R_alloc | apply Kd.R_drewN | apply Kd.R_drew)); exact HO_13.out⟩, ⟨by (with_reducible repeat (first | apply Kd.R_alloc | apply Kd.R_drewN | apply Kd.R_drew)); exact HO_115000.out⟩, ⟨by (with_reducible repeat (first | apply Kd.R_alloc | apply Kd.R_drewN | apply Kd.R_drew)); exact HO_115001.out⟩, ⟨by (with_reducible repeat (first | refine blk_drewN ?_ _ | refine blk_drew ?_ | refine blk_alloc ?_ _)); exact BK101.out⟩, ⟨by (with_reducible repeat (first | refine blk_drewN ?_ _ | refine blk_drew ?_ | refine blk_alloc ?_ _)); exact BK102.out⟩, ⟨by (with_reducible repeat (first | refine blk_drewN ?_ _ | refine blk_drew ?_ | refine blk_alloc ?_ _)); exact BK114.out⟩, ⟨pE HB⟩⟩
              ·
               rw [if_neg c88] at H
               have c88b0 : decide (t162 < t161) = false := decide_eq_false c88
               clear c88
               have H' := Aside0.mk H
               clear H
               go_wp2_with (first | (go_at_call 49; (with_reducible refine (walkmilllaw05_dried.calls k3 _ _ t111 (Int.tmod (wrap64 (a2_0)) (wrap64 ((t111.length : Int) + 1))) x19_3 _ _ l1 t162 _ ?side1 ?side2 ?side3 ?side4 A87.out).mono ?_); (case side1 => exact pC (Kd.R_reads' HO_8.out).2.2); (case side2 => exact (Kd.R_reads' HO_8.out).2.1); (case side3 => exact pC (Kd.C_below HR1.out HB.out)); (case side4 => exact HC1.out); rintro e w90 ⟨rfl, hb⟩; replace HO_8 := rb HO_8 hb; replace HO_11 := rb HO_11 hb; replace HO_13 := rb HO_13 hb; replace HO_115000 := rb HO_115000 hb; replace HO_115001 := rb HO_115001 hb; replace BK101 := bb BK101 hb; replace BK102 := bb BK102 hb; replace BK114 := bb BK114 hb; replace HB := bs HB hb; (try clear hb); (try clear hb2); (try clear hk); (try clear hi)))
               go_meet
               case rel => exact ⟨_, (x19_3), (by first | rfl | (simp; done) | (simp [*]; done)), H', ⟨by have := HJ15.out; have := HK2.out; have := HK3.out; first | omega | exact Nat.le_refl _⟩, ⟨by (with_reducible repeat (first | apply Kd.R_alloc | apply Kd.R_drewN | apply Kd.R_drew)); exact HO_8.out⟩, ⟨by (with_reducible repeat (first | apply Kd.R_alloc | apply Kd.R_drewN | apply Kd.R_drew)); exact HO_11.out⟩, ⟨by (with_reducible repeat (first | apply Kd.R_alloc | apply Kd.R_drewN | apply Kd.R_drew)); exact HO_13.out⟩, ⟨by (with_reducible repeat (first | apply Kd.R_alloc | apply Kd.R_drewN | apply Kd.R_drew)); exact HO_115000.out⟩, ⟨by (with_reducible repeat (first | apply Kd.R_alloc | apply Kd.R_drewN | apply Kd.R_drew)); exact HO_115001.out⟩, ⟨by (with_reducible repeat (first | refine blk_drewN ?_ _ | refine blk_drew ?_ | refine blk_alloc ?_ _)); exact BK101.out⟩, ⟨by (with_reducible repeat (first | refine blk_drewN ?_ _ | refine blk_drew ?_ | refine blk_alloc ?_ _)); exact BK102.out⟩, ⟨by (with_reducible repeat (first | refine blk_drewN ?_ _ | refine blk_drew ?_ | refine blk_alloc ?_ _)); exact BK114.out⟩, ⟨pE HB⟩⟩
             ·
              rw [if_neg c86] at H
              have c86b0 : decide (x19_3 ≤ (t111.length : Int)) = false := decide_eq_false c86
              clear c86
              (first | rw [c86b0] | (simp only [i64_w, i32_w]; rw [c86b0]) | skip)
              have H' := Aside0.mk H
              clear H
              go_wp2
              go_meet
              case rel => exact ⟨_, (x19_3), (by first | rfl | (simp; done) | (simp [*]; done)), H', ⟨by have := HJ15.out; have := HK2.out; have := HK3.out; first | omega | exact Nat.le_refl _⟩, ⟨by (with_reducible repeat (first | apply Kd.R_alloc | apply Kd.R_drewN | apply Kd.R_drew)); exact HO_8.out⟩, ⟨by (with_reducible repeat (first | apply Kd.R_alloc | apply Kd.R_drewN | apply Kd.R_drew)); exact HO_11.out⟩, ⟨by (with_reducible repeat (first | apply Kd.R_alloc | apply Kd.R_drewN | apply Kd.R_drew)); exact HO_13.out⟩, ⟨by (with_reducible repeat (first | apply Kd.R_alloc | apply Kd.R_drewN | apply Kd.R_drew)); exact HO_115000.out⟩, ⟨by (with_reducible repeat (first | apply Kd.R_alloc | apply Kd.R_drewN | apply Kd.R_drew)); exact HO_115001.out⟩, ⟨by (with_reducible repeat (first | refine blk_drewN ?_ _ | refine blk_drew ?_ | refine blk_alloc ?_ _)); exact BK101.out⟩, ⟨by (with_reducible repeat (first | refine blk_drewN ?_ _ | refine blk_drew ?_ | refine blk_alloc ?_ _)); exact BK102.out⟩, ⟨by (with_reducible repeat (first | refine blk_drewN ?_ _ | refine blk_drew ?_ | refine blk_alloc ?_ _)); exact BK114.out⟩, ⟨pE HB⟩⟩
          case rest =>
           as_aux_lemma =>
           clear HC82
           try clear c1
           try clear p1
           try clear q1
           try clear hx1
           try clear p2
           try clear c3
           try clear c4
           try clear c5
           try clear c6
           try clear p6
           try clear c7
           try clear c8
           try clear p15
           try clear q15
           try clear hx15
           try clear c33
           try clear c34
           try clear c38
           try clear c43
           try clear c44
           try clear c45
           try clear c46
           try clear c47
           try clear c48
           try clear c56
           try clear c56b0
           try clear c56b1
           try clear c57
           try clear c57b0
           try clear c57b1
           try clear c58
           try clear c58b0
           try clear c58b1
           try clear c59
           try clear c59b0
           try clear c59b1
           try clear c59b2
           try clear c60
           try clear c60b0
           try clear c60b1
           try clear c60b2
           try clear c61
           try clear c61b0
           try clear c63
           try clear c64
           try clear p64
           try clear c67
           try clear c67b0
           try clear c67b1
           try clear c68
           try clear c68b0
           try clear c68b1
           try clear c69
           try clear c69b0
           try clear c69b1
           try clear c69b2
           try clear c70
           try clear c70b0
           try clear c70b1
           try clear c70b2
           try clear c72
           try clear c73
           try clear c76
           try clear c77
           try clear c77b0
           try clear c78
           try clear c78b0
           try clear c79
           try clear c79b0
           try clear c86
           try clear c86b0
           try clear c88
           try clear c88b0
           try clear hcz35_0
           try clear hcz35_1
           try clear hcz35_2
           try clear hcz35_3
           try clear hcz42_0
           try clear hcz42_1
           try clear hcz42_2
           try clear hcz42_3
           try clear hcz49_0
           try clear hcz49_1
           try clear hcz49_2
           try clear hcz49_3
           try clear hcz65_0
           try clear hcz65_1
           try clear hcz65_2
           try clear hcz65_3
           try clear hcz74_0
           try clear hcz74_1
           try clear hcz74_2
           try clear hcz74_3
           try clear hfz35_0
           try clear hfz35_1
           try clear hfz35_2
           try clear hfz35_3
           try clear hfz42_0
           try clear hfz42_1
           try clear hfz42_2
           try clear hfz42_3
           try clear hfz49_0
           try clear hfz49_1
           try clear hfz49_2
           try clear hfz49_3
           try clear hfz65_0
           try clear hfz65_1
           try clear hfz65_2
           try clear hfz65_3
           try clear hfz74_0
           try clear hfz74_1
           try clear hfz74_2
           try clear hfz74_3
           try clear hx159_0
           try clear hx159_1
           try clear hx159_2
           try clear hx159_3
           try clear p1
           try clear p15
           try clear p159
           try clear p2
           try clear p6
           try clear p64
           try clear q1
           try clear q15
           try clear q159
           obtain ⟨kq, x19_81, rfl, HA, HJ81, HO_8, HO_11, HO_13, HO_115000, HO_115001, BK101, BK102, BK114, HB⟩ := hcut
           cases kq with
           | zero => exact absurd HA.out (by simp [walkmilllaw05_TenterDry.j3])
           | succ kj81 =>
            have H := HA.out
            clear HA
            simp only [walkmilllaw05_TenterDry.j3] at H
            have HC91 := Aside0.mk H
            clear H
            go_upto_region 14 with (fail)
            go_cut [204] (fun v204 wc => ∃ (kq : Nat) (x204_90 : Bool), v204 = .bool x204_90 ∧ Aside0 (walkmilllaw05_TenterDry.j4 kq l1 t111 (Int.tmod (wrap64 (a2_0)) (wrap64 ((t111.length : Int) + 1))) (Int.tmod (wrap64 (a2_1)) (wrap64 ((t111.length : Int) + 1))) t126 t141 t156 t157 x17_2 x204_90 t103 t106 t109 t110 = some r) ∧ Aside0 (kq ≤ kj81) ∧ Aside0 (Kd.R k36 36 wc w.heap.size (fun k_ => some k_ ≠ ((.slice Ao83 t126.length co83) : Value).ownBlock ∧ some k_ ≠ (v142 : Value).ownBlock) (.slice Ao32 t111.length co32) t111) ∧ Aside0 (Kd.R k36 36 wc w.heap.size (fun k_ => some k_ ≠ ((.slice Ao32 t111.length co32) : Value).ownBlock ∧ some k_ ≠ (v142 : Value).ownBlock) (.slice Ao83 t126.length co83) t126) ∧ Aside0 (Kd.R k36 36 wc w.heap.size (fun k_ => some k_ ≠ ((.slice Ao32 t111.length co32) : Value).ownBlock ∧ some k_ ≠ ((.slice Ao83 t126.length co83) : Value).ownBlock) v142 t141) ∧ Aside0 (Kd.R k43 43 wc w.heap.size (fun _ => True) (.slice (some ad159) t103.length co24) t103) ∧ Aside0 (Kd.R (Kd.int .i64) 3 wc w.heap.size (fun _ => True) (.slice Ao26 t106.length co26) t106) ∧ Aside0 (wc.heap[gb101]? = some (.cells #[(.slice A0_0 l0_0.length c0_0), .int .u8 a0_1, .int .u8 a0_2, .int .u8 a0_3, .int .u8 a0_4, .int .u8 a0_5, (.slice A0_6 l0_6.length c0_6)] 79 (0, 0))) ∧ Aside0 (wc.heap[gb102]? = some (.cells #[.int .u8 a2_0, .int .u8 a2_1] 81 (0, 0))) ∧ Aside0 (wc.heap[gb114]? = some (.cells #[(.slice (some ad159) t103.length co24), (.slice Ao26 t106.length co26), .int .i64 t109, .int .i64 t110] 25 (0, 0))) ∧ Aside0 (Below w.heap.size w wc))
            case first =>
             have H := HC91.out
             clear HC91
             by_cases c92 : 0 ≤ x17_2
             ·
              rw [if_pos c92] at H
              have c92b0 : decide (0 ≤ x17_2) = true := decide_eq_true c92
              clear c92
              (first | rw [c92b0] | (simp only [i64_w, i32_w]; rw [c92b0]) | skip)
              by_cases c93 : x17_2 < (t126.length : Int)
              ·
               rw [if_pos c93] at H
               have c93b0 : decide (x17_2 < (t126.length : Int)) = true := decide_eq_true c93
               clear c93
               by_cases c94 : x19_81 < ((rd_T36 t126 x17_2).f0)
               ·
                rw [if_pos c94] at H
                have c94b0 : decide (x19_81 < ((rd_T36 t126 x17_2).f0)) = true := decide_eq_true c94
                clear c94
                exact (walkmilllaw05_TenterDry.dead_j4 _ _ _ _ _ _ _ _ _ _ _ _ _ _ _ H HRT.out).elim
               ·
                rw [if_neg c94] at H
                have c94b0 : decide (x19_81 < ((rd_T36 t126 x17_2).f0)) = false := decide_eq_false c94
                clear c94
                by_cases c95 : x19_81 > ((rd_T36 t126 x17_2).f1)
                ·
                 rw [if_pos c95] at H
                 have c95b0 : decide (((rd_T36 t126 x17_2).f1) < x19_81) = true := decide_eq_true c95
                 clear c95
                 exact (walkmilllaw05_TenterDry.dead_j4 _ _ _ _ _ _ _ _ _ _ _ _ _ _ _ H HRT.out).elim
                ·
                 rw [if_neg c95] at H
                 have c95b0 : decide (((rd_T36 t126 x17_2).f1) < x19_81) = false := decide_eq_false c95
                 clear c95
                 by_cases c96 : t157 = 0
                 ·
                  rw [if_pos c96] at H
                  have c96b0 : (t157 == 0) = true := beq_iff_eq.mpr c96
                  have c96b1 : (t157 != 0) = false := bne_eq_false_iff_eq.mpr c96
                  clear c96
                  by_cases c97 : x17_2 < t156
                  ·
                   rw [if_pos c97] at H
                   have c97b0 : decide (x17_2 < t156) = true := decide_eq_true c97
                   clear c97
                   by_cases c98 : x17_2 < (t141.length : Int)
                   ·
                    rw [if_pos c98] at H
                    have c98b0 : decide (x17_2 < (t141.length : Int)) = true := decide_eq_true c98
                    clear c98
                    by_cases c99 : ((rd_T36 t141 x17_2).f1) > (Int.tmod (wrap64 (a2_1)) (wrap64 ((t111.length : Int) + 1)))
                    ·
                     rw [if_pos c99] at H
                     have c99b0 : decide ((Int.tmod (wrap64 (a2_1)) (wrap64 ((t111.length : Int) + 1))) < ((rd_T36 t141 x17_2).f1)) = true := decide_eq_true c99
                     clear c99
                     exact (walkmilllaw05_TenterDry.dead_j4 _ _ _ _ _ _ _ _ _ _ _ _ _ _ _ H HRT.out).elim
                    ·
                     rw [if_neg c99] at H
                     have c99b0 : decide ((Int.tmod (wrap64 (a2_1)) (wrap64 ((t111.length : Int) + 1))) < ((rd_T36 t141 x17_2).f1)) = false := decide_eq_false c99
                     clear c99
                     by_cases c100 : x17_2 = t156
                     ·
                      rw [if_pos c100] at H
                      have c100b0 : (x17_2 == t156) = true := beq_iff_eq.mpr c100
                      have c100b1 : (x17_2 != t156) = false := bne_eq_false_iff_eq.mpr c100
                      clear c100
                      have H' := Aside0.mk H
                      clear H
                      have p163 : 0 ≤ (x17_2 : Int) := dT
                      have q163 : x17_2 < (t126.length : Int) := dT
                      obtain ⟨ad163, e163, hx163_0, hx163_1⟩ := at_T36 (Kd.R_reads' HO_11.out).2.2 x17_2 p163 q163
                      cases e163
                      replace p163 := eq_true p163
                      replace q163 := eq_true q163
                      have p164 : 0 ≤ (x17_2 : Int) := dT
                      have q164 : x17_2 < (t126.length : Int) := dT
                      obtain ⟨ad164, e164, hx164_0, hx164_1⟩ := at_T36 (Kd.R_reads' HO_11.out).2.2 x17_2 p164 q164
                      obtain rfl : ad163 = ad164 := (by injection e164)
                      replace p164 := eq_true p164
                      replace q164 := eq_true q164
                      obtain ⟨Ao101, co101, eo101⟩ := Kd.R_slice HO_13.out
                      subst eo101
                      have p165 : 0 ≤ (x17_2 : Int) := dT
                      have q165 : x17_2 < (t141.length : Int) := dT
                      obtain ⟨ad165, e165, hx165_0, hx165_1⟩ := at_T36 (Kd.R_reads' HO_13.out).2.2 x17_2 p165 q165
                      cases e165
                      replace p165 := eq_true p165
                      replace q165 := eq_true q165
                      have p166 : 0 ≤ (x17_2 : Int) := dT
                      have q166 : x17_2 < (t141.length : Int) := dT
                      obtain ⟨ad166, e166, hx166_0, hx166_1⟩ := at_T36 (Kd.R_reads' HO_13.out).2.2 x17_2 p166 q166
                      obtain rfl : ad165 = ad166 := (by injection e166)
                      replace p166 := eq_true p166
                      replace q166 := eq_true q166
                      go_wp2
                      go_meet
                      case rel => exact ⟨_, (decide (((rd_T36 t141 x17_2).f1) ≤ (Int.tmod (wrap64 (a2_1)) (wrap64 ((t111.length : Int) + 1))))), (by first | rfl | (simp; done) | (simp [*]; done)), H', ⟨by have := HJ15.out; have := HK2.out; have := HJ81.out; first | omega | exact Nat.le_refl _⟩, ⟨by (with_reducible repeat (first | apply Kd.R_alloc | apply Kd.R_drewN | apply Kd.R_drew)); exact HO_8.out⟩, ⟨by (with_reducible repeat (first | apply Kd.R_alloc | apply Kd.R_drewN | apply Kd.R_drew)); exact HO_11.out⟩, ⟨by (with_reducible repeat (first | apply Kd.R_alloc | apply Kd.R_drewN | apply Kd.R_drew)); exact HO_13.out⟩, ⟨by (with_reducible repeat (first | apply Kd.R_alloc | apply Kd.R_drewN | apply Kd.R_drew)); exact HO_115000.out⟩, ⟨by (with_reducible repeat (first | apply Kd.R_alloc | apply Kd.R_drewN | apply Kd.R_drew)); exact HO_115001.out⟩, ⟨by (with_reducible repeat (first | refine blk_drewN ?_ _ | refine blk_drew ?_ | refine blk_alloc ?_ _)); exact BK101.out⟩, ⟨by (with_reducible repeat (first | refine blk_drewN ?_ _ | refine blk_drew ?_ | refine blk_alloc ?_ _)); exact BK102.out⟩, ⟨by (with_reducible repeat (first | refine blk_drewN ?_ _ | refine blk_drew ?_ | refine blk_alloc ?_ _)); exact BK114.out⟩, ⟨pE HB⟩⟩
                     ·
                      rw [if_neg c100] at H
                      have c100b0 : (x17_2 == t156) = false := beq_eq_false_iff_ne.mpr c100
                      have c100b1 : (x17_2 != t156) = true := bne_iff_ne.mpr c100
                      have H' := Aside0.mk H
                      clear H
                      have p163 : 0 ≤ (x17_2 : Int) := dT
                      have q163 : x17_2 < (t126.length : Int) := dT
                      obtain ⟨ad163, e163, hx163_0, hx163_1⟩ := at_T36 (Kd.R_reads' HO_11.out).2.2 x17_2 p163 q163
                      cases e163
                      replace p163 := eq_true p163
                      replace q163 := eq_true q163
                      have p164 : 0 ≤ (x17_2 : Int) := dT
                      have q164 : x17_2 < (t126.length : Int) := dT
                      obtain ⟨ad164, e164, hx164_0, hx164_1⟩ := at_T36 (Kd.R_reads' HO_11.out).2.2 x17_2 p164 q164
                      obtain rfl : ad163 = ad164 := (by injection e164)
                      replace p164 := eq_true p164
                      replace q164 := eq_true q164
                      obtain ⟨Ao102, co102, eo102⟩ := Kd.R_slice HO_13.out
                      subst eo102
                      have p165 : 0 ≤ (x17_2 : Int) := dT
                      have q165 : x17_2 < (t141.length : Int) := dT
                      obtain ⟨ad165, e165, hx165_0, hx165_1⟩ := at_T36 (Kd.R_reads' HO_13.out).2.2 x17_2 p165 q165
                      cases e165
                      replace p165 := eq_true p165
                      replace q165 := eq_true q165
                      go_wp2
                      go_meet
                      case rel => exact ⟨_, (false), (by first | rfl | (simp; done) | (simp [*]; done)), H', ⟨by have := HJ15.out; have := HK2.out; have := HJ81.out; first | omega | exact Nat.le_refl _⟩, ⟨by (with_reducible repeat (first | apply Kd.R_alloc | apply Kd.R_drewN | apply Kd.R_drew)); exact HO_8.out⟩, ⟨by (with_reducible repeat (first | apply Kd.R_alloc | apply Kd.R_drewN | apply Kd.R_drew)); exact HO_11.out⟩, ⟨by (with_reducible repeat (first | apply Kd.R_alloc | apply Kd.R_drewN | apply Kd.R_drew)); exact HO_13.out⟩, ⟨by (with_reducible repeat (first | apply Kd.R_alloc | apply Kd.R_drewN | apply Kd.R_drew)); exact HO_115000.out⟩, ⟨by (with_reducible repeat (first | apply Kd.R_alloc | apply Kd.R_drewN | apply Kd.R_drew)); exact HO_115001.out⟩, ⟨by (with_reducible repeat (first | refine blk_drewN ?_ _ | refine blk_drew ?_ | refine blk_alloc ?_ _)); exact BK101.out⟩, ⟨by (with_reducible repeat (first | refine blk_drewN ?_ _ | refine blk_drew ?_ | refine blk_alloc ?_ _)); exact BK102.out⟩, ⟨by (with_reducible repeat (first | refine blk_drewN ?_ _ | refine blk_drew ?_ | refine blk_alloc ?_ _)); exact BK114.out⟩, ⟨pE HB⟩⟩
                   ·
                    rw [if_neg c98] at H
                    exact absurd H (by simp)
                  ·
                   rw [if_neg c97] at H
                   have c97b0 : decide (x17_2 < t156) = false := decide_eq_false c97
                   clear c97
                   by_cases c103 : t157 = 6
                   ·
                    rw [if_pos c103] at H
                    have c103b0 : (t157 == 6) = true := beq_iff_eq.mpr c103
                    have c103b1 : (t157 != 6) = false := bne_eq_false_iff_eq.mpr c103
                    clear c103
                    by_cases c104 : x17_2 < (t141.length : Int)
                    ·
                     rw [if_pos c104] at H
                     have c104b0 : decide (x17_2 < (t141.length : Int)) = true := decide_eq_true c104
                     clear c104
                     by_cases c105 : ((rd_T36 t141 x17_2).f1) > (Int.tmod (wrap64 (a2_1)) (wrap64 ((t111.length : Int) + 1)))
                     ·
                      rw [if_pos c105] at H
                      have c105b0 : decide ((Int.tmod (wrap64 (a2_1)) (wrap64 ((t111.length : Int) + 1))) < ((rd_T36 t141 x17_2).f1)) = true := decide_eq_true c105
                      clear c105
                      exact (walkmilllaw05_TenterDry.dead_j4 _ _ _ _ _ _ _ _ _ _ _ _ _ _ _ H HRT.out).elim
                     ·
                      rw [if_neg c105] at H
                      have c105b0 : decide ((Int.tmod (wrap64 (a2_1)) (wrap64 ((t111.length : Int) + 1))) < ((rd_T36 t141 x17_2).f1)) = false := decide_eq_false c105
                      clear c105
                      by_cases c106 : x17_2 = t156
                      ·
                       rw [if_pos c106] at H
                       have c106b0 : (x17_2 == t156) = true := beq_iff_eq.mpr c106
                       have c106b1 : (x17_2 != t156) = false := bne_eq_false_iff_eq.mpr c106
                       clear c106
                       have H' := Aside0.mk H
                       clear H
                       have p163 : 0 ≤ (x17_2 : Int) := dT
                       have q163 : x17_2 < (t126.length : Int) := dT
                       obtain ⟨ad163, e163, hx163_0, hx163_1⟩ := at_T36 (Kd.R_reads' HO_11.out).2.2 x17_2 p163 q163
                       cases e163
                       replace p163 := eq_true p163
                       replace q163 := eq_true q163
                       have p164 : 0 ≤ (x17_2 : Int) := dT
                       have q164 : x17_2 < (t126.length : Int) := dT
                       obtain ⟨ad164, e164, hx164_0, hx164_1⟩ := at_T36 (Kd.R_reads' HO_11.out).2.2 x17_2 p164 q164
                       obtain rfl : ad163 = ad164 := (by injection e164)
                       replace p164 := eq_true p164
                       replace q164 := eq_true q164
                       obtain ⟨Ao107, co107, eo107⟩ := Kd.R_slice HO_13.out
                       subst eo107
                       have p167 : 0 ≤ (x17_2 : Int) := dT
                       have q167 : x17_2 < (t141.length : Int) := dT
                       obtain ⟨ad167, e167, hx167_0, hx167_1⟩ := at_T36 (Kd.R_reads' HO_13.out).2.2 x17_2 p167 q167
                       cases e167
                       replace p167 := eq_true p167
                       replace q167 := eq_true q167
                       have p168 : 0 ≤ (x17_2 : Int) := dT
                       have q168 : x17_2 < (t141.length : Int) := dT
                       obtain ⟨ad168, e168, hx168_0, hx168_1⟩ := at_T36 (Kd.R_reads' HO_13.out).2.2 x17_2 p168 q168
                       obtain rfl : ad167 = ad168 := (by injection e168)
                       replace p168 := eq_true p168
                       replace q168 := eq_true q168
                       go_wp2
                       go_meet
                       case rel => exact ⟨_, (decide (((rd_T36 t141 x17_2).f1) ≤ (Int.tmod (wrap64 (a2_1)) (wrap64 ((t111.length : Int) + 1))))), (by first | rfl | (simp; done) | (simp [*]; done)), H', ⟨by have := HJ15.out; have := HK2.out; have := HJ81.out; first | omega | exact Nat.le_refl _⟩, ⟨by (with_reducible repeat (first | apply Kd.R_alloc | apply Kd.R_drewN | apply Kd.R_drew)); exact HO_8.out⟩, ⟨by (with_reducible repeat (first | apply Kd.R_alloc | apply Kd.R_drewN | apply Kd.R_drew)); exact HO_11.out⟩, ⟨by (with_reducible repeat (first | apply Kd.R_alloc | apply Kd.R_drewN | apply Kd.R_drew)); exact HO_13.out⟩, ⟨by (with_reducible repeat (first | apply Kd.R_alloc | apply Kd.R_drewN | apply Kd.R_drew)); exact HO_115000.out⟩, ⟨by (with_reducible repeat (first | apply Kd.R_alloc | apply Kd.R_drewN | apply Kd.R_drew)); exact HO_115001.out⟩, ⟨by (with_reducible repeat (first | refine blk_drewN ?_ _ | refine blk_drew ?_ | refine blk_alloc ?_ _)); exact BK101.out⟩, ⟨by (with_reducible repeat (first | refine blk_drewN ?_ _ | refine blk_drew ?_ | refine blk_alloc ?_ _)); exact BK102.out⟩, ⟨by (with_reducible repeat (first | refine blk_drewN ?_ _ | refine blk_drew ?_ | refine blk_alloc ?_ _)); exact BK114.out⟩, ⟨pE HB⟩⟩
                      ·
                       rw [if_neg c106] at H
                       have c106b0 : (x17_2 == t156) = false := beq_eq_false_iff_ne.mpr c106
                       have c106b1 : (x17_2 != t156) = true := bne_iff_ne.mpr c106
                       have H' := Aside0.mk H
                       clear H
                       have p163 : 0 ≤ (x17_2 : Int) := dT
                       have q163 : x17_2 < (t126.length : Int) := dT
                       obtain ⟨ad163, e163, hx163_0, hx163_1⟩ := at_T36 (Kd.R_reads' HO_11.out).2.2 x17_2 p163 q163
                       cases e163
                       replace p163 := eq_true p163
                       replace q163 := eq_true q163
                       have p164 : 0 ≤ (x17_2 : Int) := dT
                       have q164 : x17_2 < (t126.length : Int) := dT
                       obtain ⟨ad164, e164, hx164_0, hx164_1⟩ := at_T36 (Kd.R_reads' HO_11.out).2.2 x17_2 p164 q164
                       obtain rfl : ad163 = ad164 := (by injection e164)
                       replace p164 := eq_true p164
                       replace q164 := eq_true q164
                       obtain ⟨Ao108, co108, eo108⟩ := Kd.R_slice HO_13.out
                       subst eo108
                       have p167 : 0 ≤ (x17_2 : Int) := dT
                       have q167 : x17_2 < (t141.length : Int) := dT
                       obtain ⟨ad167, e167, hx167_0, hx167_1⟩ := at_T36 (Kd.R_reads' HO_13.out).2.2 x17_2 p167 q167
                       cases e167
                       replace p167 := eq_true p167
                       replace q167 := eq_true q167
                       go_wp2
                       go_meet
                       case rel => exact ⟨_, (false), (by first | rfl | (simp; done) | (simp [*]; done)), H', ⟨by have := HJ15.out; have := HK2.out; have := HJ81.out; first | omega | exact Nat.le_refl _⟩, ⟨by (with_reducible repeat (first | apply Kd.R_alloc | apply Kd.R_drewN | apply Kd.R_drew)); exact HO_8.out⟩, ⟨by (with_reducible repeat (first | apply Kd.R_alloc | apply Kd.R_drewN | apply Kd.R_drew)); exact HO_11.out⟩, ⟨by (with_reducible repeat (first | apply Kd.R_alloc | apply Kd.R_drewN | apply Kd.R_drew)); exact HO_13.out⟩, ⟨by (with_reducible repeat (first | apply Kd.R_alloc | apply Kd.R_drewN | apply Kd.R_drew)); exact HO_115000.out⟩, ⟨by (with_reducible repeat (first | apply Kd.R_alloc | apply Kd.R_drewN | apply Kd.R_drew)); exact HO_115001.out⟩, ⟨by (with_reducible repeat (first | refine blk_drewN ?_ _ | refine blk_drew ?_ | refine blk_alloc ?_ _)); exact BK101.out⟩, ⟨by (with_reducible repeat (first | refine blk_drewN ?_ _ | refine blk_drew ?_ | refine blk_alloc ?_ _)); exact BK102.out⟩, ⟨by (with_reducible repeat (first | refine blk_drewN ?_ _ | refine blk_drew ?_ | refine blk_alloc ?_ _)); exact BK114.out⟩, ⟨pE HB⟩⟩
                    ·
                     rw [if_neg c104] at H
                     exact absurd H (by simp)
                   ·
                    rw [if_neg c103] at H
                    have c103b0 : (t157 == 6) = false := beq_eq_false_iff_ne.mpr c103
                    have c103b1 : (t157 != 6) = true := bne_iff_ne.mpr c103
                    by_cases c109 : x17_2 = t156
                    ·
                     rw [if_pos c109] at H
                     have c109b0 : (x17_2 == t156) = true := beq_iff_eq.mpr c109
                     have c109b1 : (x17_2 != t156) = false := bne_eq_false_iff_eq.mpr c109
                     clear c109
                     by_cases c110 : x17_2 < (t141.length : Int)
                     ·
                      rw [if_pos c110] at H
                      have c110b0 : decide (x17_2 < (t141.length : Int)) = true := decide_eq_true c110
                      clear c110
                      have H' := Aside0.mk H
                      clear H
                      have p163 : 0 ≤ (x17_2 : Int) := dT
                      have q163 : x17_2 < (t126.length : Int) := dT
                      obtain ⟨ad163, e163, hx163_0, hx163_1⟩ := at_T36 (Kd.R_reads' HO_11.out).2.2 x17_2 p163 q163
                      cases e163
                      replace p163 := eq_true p163
                      replace q163 := eq_true q163
                      have p164 : 0 ≤ (x17_2 : Int) := dT
                      have q164 : x17_2 < (t126.length : Int) := dT
                      obtain ⟨ad164, e164, hx164_0, hx164_1⟩ := at_T36 (Kd.R_reads' HO_11.out).2.2 x17_2 p164 q164
                      obtain rfl : ad163 = ad164 := (by injection e164)
                      replace p164 := eq_true p164
                      replace q164 := eq_true q164
                      obtain ⟨Ao111, co111, eo111⟩ := Kd.R_slice HO_13.out
                      subst eo111
                      have p169 : 0 ≤ (x17_2 : Int) := dT
                      have q169 : x17_2 < (t141.length : Int) := dT
                      obtain ⟨ad169, e169, hx169_0, hx169_1⟩ := at_T36 (Kd.R_reads' HO_13.out).2.2 x17_2 p169 q169
                      cases e169
                      replace p169 := eq_true p169
                      replace q169 := eq_true q169
                      go_wp2
                      go_meet
                      case rel => exact ⟨_, (decide (((rd_T36 t141 x17_2).f1) ≤ (Int.tmod (wrap64 (a2_1)) (wrap64 ((t111.length : Int) + 1))))), (by first | rfl | (simp; done) | (simp [*]; done)), H', ⟨by have := HJ15.out; have := HK2.out; have := HJ81.out; first | omega | exact Nat.le_refl _⟩, ⟨by (with_reducible repeat (first | apply Kd.R_alloc | apply Kd.R_drewN | apply Kd.R_drew)); exact HO_8.out⟩, ⟨by (with_reducible repeat (first | apply Kd.R_alloc | apply Kd.R_drewN | apply Kd.R_drew)); exact HO_11.out⟩, ⟨by (with_reducible repeat (first | apply Kd.R_alloc | apply Kd.R_drewN | apply Kd.R_drew)); exact HO_13.out⟩, ⟨by (with_reducible repeat (first | apply Kd.R_alloc | apply Kd.R_drewN | apply Kd.R_drew)); exact HO_115000.out⟩, ⟨by (with_reducible repeat (first | apply Kd.R_alloc | apply Kd.R_drewN | apply Kd.R_drew)); exact HO_115001.out⟩, ⟨by (with_reducible repeat (first | refine blk_drewN ?_ _ | refine blk_drew ?_ | refine blk_alloc ?_ _)); exact BK101.out⟩, ⟨by (with_reducible repeat (first | refine blk_drewN ?_ _ | refine blk_drew ?_ | refine blk_alloc ?_ _)); exact BK102.out⟩, ⟨by (with_reducible repeat (first | refine blk_drewN ?_ _ | refine blk_drew ?_ | refine blk_alloc ?_ _)); exact BK114.out⟩, ⟨pE HB⟩⟩
                     ·
                      rw [if_neg c110] at H
                      exact absurd H (by simp)
                    ·
                     rw [if_neg c109] at H
                     have c109b0 : (x17_2 == t156) = false := beq_eq_false_iff_ne.mpr c109
                     have c109b1 : (x17_2 != t156) = true := bne_iff_ne.mpr c109
                     have H' := Aside0.mk H
                     clear H
                     have p163 : 0 ≤ (x17_2 : Int) := dT
                     have q163 : x17_2 < (t126.length : Int) := dT
                     obtain ⟨ad163, e163, hx163_0, hx163_1⟩ := at_T36 (Kd.R_reads' HO_11.out).2.2 x17_2 p163 q163
                     cases e163
                     replace p163 := eq_true p163
                     replace q163 := eq_true q163
                     have p164 : 0 ≤ (x17_2 : Int) := dT
                     have q164 : x17_2 < (t126.length : Int) := dT
                     obtain ⟨ad164, e164, hx164_0, hx164_1⟩ := at_T36 (Kd.R_reads' HO_11.out).2.2 x17_2 p164 q164
                     obtain rfl : ad163 = ad164 := (by injection e164)
                     replace p164 := eq_true p164
                     replace q164 := eq_true q164
                     go_wp2
                     go_meet
                     case rel => exact ⟨_, (false), (by first | rfl | (simp; done) | (simp [*]; done)), H', ⟨by have := HJ15.out; have := HK2.out; have := HJ81.out; first | omega | exact Nat.le_refl _⟩, ⟨by (with_reducible repeat (first | apply Kd.R_alloc | apply Kd.R_drewN | apply Kd.R_drew)); exact HO_8.out⟩, ⟨by (with_reducible repeat (first | apply Kd.R_alloc | apply Kd.R_drewN | apply Kd.R_drew)); exact HO_11.out⟩, ⟨by (with_reducible repeat (first | apply Kd.R_alloc | apply Kd.R_drewN | apply Kd.R_drew)); exact HO_13.out⟩, ⟨by (with_reducible repeat (first | apply Kd.R_alloc | apply Kd.R_drewN | apply Kd.R_drew)); exact HO_115000.out⟩, ⟨by (with_reducible repeat (first | apply Kd.R_alloc | apply Kd.R_drewN | apply Kd.R_drew)); exact HO_115001.out⟩, ⟨by (with_reducible repeat (first | refine blk_drewN ?_ _ | refine blk_drew ?_ | refine blk_alloc ?_ _)); exact BK101.out⟩, ⟨by (with_reducible repeat (first | refine blk_drewN ?_ _ | refine blk_drew ?_ | refine blk_alloc ?_ _)); exact BK102.out⟩, ⟨by (with_reducible repeat (first | refine blk_drewN ?_ _ | refine blk_drew ?_ | refine blk_alloc ?_ _)); exact BK114.out⟩, ⟨pE HB⟩⟩
                 ·
                  rw [if_neg c96] at H
                  have c96b0 : (t157 == 0) = false := beq_eq_false_iff_ne.mpr c96
                  have c96b1 : (t157 != 0) = true := bne_iff_ne.mpr c96
                  by_cases c112 : t157 = 6
                  ·
                   rw [if_pos c112] at H
                   have c112b0 : (t157 == 6) = true := beq_iff_eq.mpr c112
                   have c112b1 : (t157 != 6) = false := bne_eq_false_iff_eq.mpr c112
                   clear c112
                   by_cases c113 : x17_2 < (t141.length : Int)
                   ·
                    rw [if_pos c113] at H
                    have c113b0 : decide (x17_2 < (t141.length : Int)) = true := decide_eq_true c113
                    clear c113
                    by_cases c114 : ((rd_T36 t141 x17_2).f1) > (Int.tmod (wrap64 (a2_1)) (wrap64 ((t111.length : Int) + 1)))
                    ·
                     rw [if_pos c114] at H
                     have c114b0 : decide ((Int.tmod (wrap64 (a2_1)) (wrap64 ((t111.length : Int) + 1))) < ((rd_T36 t141 x17_2).f1)) = true := decide_eq_true c114
                     clear c114
                     exact (walkmilllaw05_TenterDry.dead_j4 _ _ _ _ _ _ _ _ _ _ _ _ _ _ _ H HRT.out).elim
                    ·
                     rw [if_neg c114] at H
                     have c114b0 : decide ((Int.tmod (wrap64 (a2_1)) (wrap64 ((t111.length : Int) + 1))) < ((rd_T36 t141 x17_2).f1)) = false := decide_eq_false c114
                     clear c114
                     have H' := Aside0.mk H
                     clear H
                     have p163 : 0 ≤ (x17_2 : Int) := dT
                     have q163 : x17_2 < (t126.length : Int) := dT
                     obtain ⟨ad163, e163, hx163_0, hx163_1⟩ := at_T36 (Kd.R_reads' HO_11.out).2.2 x17_2 p163 q163
                     cases e163
                     replace p163 := eq_true p163
                     replace q163 := eq_true q163
                     have p164 : 0 ≤ (x17_2 : Int) := dT
                     have q164 : x17_2 < (t126.length : Int) := dT
                     obtain ⟨ad164, e164, hx164_0, hx164_1⟩ := at_T36 (Kd.R_reads' HO_11.out).2.2 x17_2 p164 q164
                     obtain rfl : ad163 = ad164 := (by injection e164)
                     replace p164 := eq_true p164
                     replace q164 := eq_true q164
                     obtain ⟨Ao115, co115, eo115⟩ := Kd.R_slice HO_13.out
                     subst eo115
                     have p170 : 0 ≤ (x17_2 : Int) := dT
                     have q170 : x17_2 < (t141.length : Int) := dT
                     obtain ⟨ad170, e170, hx170_0, hx170_1⟩ := at_T36 (Kd.R_reads' HO_13.out).2.2 x17_2 p170 q170
                     cases e170
                     replace p170 := eq_true p170
                     replace q170 := eq_true q170
                     go_wp2
                     go_meet
                     case rel => exact ⟨_, (false), (by first | rfl | (simp; done) | (simp [*]; done)), H', ⟨by have := HJ15.out; have := HK2.out; have := HJ81.out; first | omega | exact Nat.le_refl _⟩, ⟨by (with_reducible repeat (first | apply Kd.R_alloc | apply Kd.R_drewN | apply Kd.R_drew)); exact HO_8.out⟩, ⟨by (with_reducible repeat (first | apply Kd.R_alloc | apply Kd.R_drewN | apply Kd.R_drew)); exact HO_11.out⟩, ⟨by (with_reducible repeat (first | apply Kd.R_alloc | apply Kd.R_drewN | apply Kd.R_drew)); exact HO_13.out⟩, ⟨by (with_reducible repeat (first | apply Kd.R_alloc | apply Kd.R_drewN | apply Kd.R_drew)); exact HO_115000.out⟩, ⟨by (with_reducible repeat (first | apply Kd.R_alloc | apply Kd.R_drewN | apply Kd.R_drew)); exact HO_115001.out⟩, ⟨by (with_reducible repeat (first | refine blk_drewN ?_ _ | refine blk_drew ?_ | refine blk_alloc ?_ _)); exact BK101.out⟩, ⟨by (with_reducible repeat (first | refine blk_drewN ?_ _ | refine blk_drew ?_ | refine blk_alloc ?_ _)); exact BK102.out⟩, ⟨by (with_reducible repeat (first | refine blk_drewN ?_ _ | refine blk_drew ?_ | refine blk_alloc ?_ _)); exact BK114.out⟩, ⟨pE HB⟩⟩
                   ·
                    rw [if_neg c113] at H
                    exact absurd H (by simp)
                  ·
                   rw [if_neg c112] at H
                   have c112b0 : (t157 == 6) = false := beq_eq_false_iff_ne.mpr c112
                   have c112b1 : (t157 != 6) = true := bne_iff_ne.mpr c112
                   have H' := Aside0.mk H
                   clear H
                   have p163 : 0 ≤ (x17_2 : Int) := dT
                   have q163 : x17_2 < (t126.length : Int) := dT
                   obtain ⟨ad163, e163, hx163_0, hx163_1⟩ := at_T36 (Kd.R_reads' HO_11.out).2.2 x17_2 p163 q163
                   cases e163
                   replace p163 := eq_true p163
                   replace q163 := eq_true q163
                   have p164 : 0 ≤ (x17_2 : Int) := dT
                   have q164 : x17_2 < (t126.length : Int) := dT
                   obtain ⟨ad164, e164, hx164_0, hx164_1⟩ := at_T36 (Kd.R_reads' HO_11.out).2.2 x17_2 p164 q164
                   obtain rfl : ad163 = ad164 := (by injection e164)
                   replace p164 := eq_true p164
                   replace q164 := eq_true q164
                   go_wp2
                   go_meet
                   case rel => exact ⟨_, (false), (by first | rfl | (simp; done) | (simp [*]; done)), H', ⟨by have := HJ15.out; have := HK2.out; have := HJ81.out; first | omega | exact Nat.le_refl _⟩, ⟨by (with_reducible repeat (first | apply Kd.R_alloc | apply Kd.R_drewN | apply Kd.R_drew)); exact HO_8.out⟩, ⟨by (with_reducible repeat (first | apply Kd.R_alloc | apply Kd.R_drewN | apply Kd.R_drew)); exact HO_11.out⟩, ⟨by (with_reducible repeat (first | apply Kd.R_alloc | apply Kd.R_drewN | apply Kd.R_drew)); exact HO_13.out⟩, ⟨by (with_reducible repeat (first | apply Kd.R_alloc | apply Kd.R_drewN | apply Kd.R_drew)); exact HO_115000.out⟩, ⟨by (with_reducible repeat (first | apply Kd.R_alloc | apply Kd.R_drewN | apply Kd.R_drew)); exact HO_115001.out⟩, ⟨by (with_reducible repeat (first | refine blk_drewN ?_ _ | refine blk_drew ?_ | refine blk_alloc ?_ _)); exact BK101.out⟩, ⟨by (with_reducible repeat (first | refine blk_drewN ?_ _ | refine blk_drew ?_ | refine blk_alloc ?_ _)); exact BK102.out⟩, ⟨by (with_reducible repeat (first | refine blk_drewN ?_ _ | refine blk_drew ?_ | refine blk_alloc ?_ _)); exact BK114.out⟩, ⟨pE HB⟩⟩
              ·
               rw [if_neg c93] at H
               exact absurd H (by simp)
             ·
              rw [if_neg c92] at H
              exact absurd H (by simp)
            case rest =>
             as_aux_lemma =>
             clear HC91
             try clear c1
             try clear p1
             try clear q1
             try clear hx1
             try clear p2
             try clear c3
             try clear c4
             try clear c5
             try clear c6
             try clear p6
             try clear c7
             try clear c8
             try clear c9
             try clear c10
             try clear c11
             try clear p15
             try clear q15
             try clear hx15
             try clear p16
             try clear q16
             try clear hx16
             try clear p17
             try clear q17
             try clear hx17
             try clear c33
             try clear c34
             try clear c38
             try clear c43
             try clear c44
             try clear c45
             try clear c46
             try clear c47
             try clear c48
             try clear c56
             try clear c56b0
             try clear c56b1
             try clear c57
             try clear c57b0
             try clear c57b1
             try clear c58
             try clear c58b0
             try clear c58b1
             try clear c59
             try clear c59b0
             try clear c59b1
             try clear c59b2
             try clear c60
             try clear c60b0
             try clear c60b1
             try clear c60b2
             try clear c61
             try clear c61b0
             try clear c63
             try clear c64
             try clear p64
             try clear c67
             try clear c67b0
             try clear c67b1
             try clear c68
             try clear c68b0
             try clear c68b1
             try clear c69
             try clear c69b0
             try clear c69b1
             try clear c69b2
             try clear c70
             try clear c70b0
             try clear c70b1
             try clear c70b2
             try clear c72
             try clear c73
             try clear c76
             try clear c77
             try clear c77b0
             try clear c78
             try clear c78b0
             try clear c79
             try clear c79b0
             try clear c86
             try clear c86b0
             try clear c88
             try clear c88b0
             try clear c92
             try clear c92b0
             try clear c93
             try clear c93b0
             try clear c94
             try clear c94b0
             try clear c95
             try clear c95b0
             try clear c96
             try clear c96b0
             try clear c96b1
             try clear c97
             try clear c97b0
             try clear c98
             try clear c98b0
             try clear c99
             try clear c99b0
             try clear c100
             try clear c100b0
             try clear c100b1
             try clear c103
             try clear c103b0
             try clear c103b1
             try clear c104
             try clear c104b0
             try clear c105
             try clear c105b0
             try clear c106
             try clear c106b0
             try clear c106b1
             try clear c109
             try clear c109b0
             try clear c109b1
             try clear c110
             try clear c110b0
             try clear c112
             try clear c112b0
             try clear c112b1
             try clear c113
             try clear c113b0
             try clear c114
             try clear c114b0
             try clear hcz35_0
             try clear hcz35_1
             try clear hcz35_2
             try clear hcz35_3
             try clear hcz42_0
             try clear hcz42_1
             try clear hcz42_2
             try clear hcz42_3
             try clear hcz49_0
             try clear hcz49_1
             try clear hcz49_2
             try clear hcz49_3
             try clear hcz65_0
             try clear hcz65_1
             try clear hcz65_2
             try clear hcz65_3
             try clear hcz74_0
             try clear hcz74_1
             try clear hcz74_2
             try clear hcz74_3
             try clear hfz35_0
             try clear hfz35_1
             try clear hfz35_2
             try clear hfz35_3
             try clear hfz42_0
             try clear hfz42_1
             try clear hfz42_2
             try clear hfz42_3
             try clear hfz49_0
             try clear hfz49_1
             try clear hfz49_2
             try clear hfz49_3
             try clear hfz65_0
             try clear hfz65_1
             try clear hfz65_2
             try clear hfz65_3
             try clear hfz74_0
             try clear hfz74_1
             try clear hfz74_2
             try clear hfz74_3
             try clear hx159_0
             try clear hx159_1
             try clear hx159_2
             try clear hx159_3
             try clear hx163_0
             try clear hx163_1
             try clear hx164_0
             try clear hx164_1
             try clear hx165_0
             try clear hx165_1
             try clear hx166_0
             try clear hx166_1
             try clear hx167_0
             try clear hx167_1
             try clear hx168_0
             try clear hx168_1
             try clear hx169_0
             try clear hx169_1
             try clear hx170_0
             try clear hx170_1
             try clear p1
             try clear p15
             try clear p159
             try clear p163
             try clear p164
             try clear p165
             try clear p166
             try clear p167
             try clear p168
             try clear p169
             try clear p170
             try clear p2
             try clear p6
             try clear p64
             try clear q1
             try clear q15
             try clear q159
             try clear q163
             try clear q164
             try clear q165
             try clear q166
             try clear q167
             try clear q168
             try clear q169
             try clear q170
             obtain ⟨kq, x204_90, rfl, HA, HJ90, HO_8, HO_11, HO_13, HO_115000, HO_115001, BK101, BK102, BK114, HB⟩ := hcut
             cases kq with
             | zero => exact absurd HA.out (by simp [walkmilllaw05_TenterDry.j4])
             | succ kj90 =>
              have H := HA.out
              clear HA
              simp only [walkmilllaw05_TenterDry.j4] at H
              by_cases c116 : x204_90 = true
              ·
               subst c116
               rw [if_pos rfl] at H
               exact absurd ((Option.some.inj H).trans HRT.out) (by simp)
              ·
               replace c116 := Bool.eq_false_iff.mpr c116
               subst c116
               rw [if_neg (show ¬ (false = true) by decide)] at H
               obtain ⟨⟨t171, t174, t177, t178⟩, A117, H⟩ := bi H
               obtain ⟨t179, A118, H⟩ := bi H
               obtain ⟨⟨t182, t183⟩, A119, H⟩ := bi H
               have HC120 := Aside0.mk H
               clear H
               have hnb121 := NB114_101.out
               have hnc121 := NB101_114.out
               have hnb122 := NB114_102.out
               have hnc122 := NB102_114.out
               obtain ⟨hcz123_0, hcz123_1, hcz123_2, hcz123_3, hfz123_0, hfz123_1, hfz123_2, hfz123_3⟩ := cf4 BK114
               go_upto_region 17 with (first | ((with_reducible refine gc 45 rfl ?_); refine gL 207 Tryz.func45 #[.agg #[.slice (some ad159) t103.length co24, .slice Ao26 t106.length co26, .int .i64 t109, .int .i64 t110]] ?_; (with_reducible refine (walkmilllaw05_own.calls _ _ t103 _ _ t106 t109 t110 t171 t174 t177 t178 _ ?side1 ?side2 ?side3 ?side4 A117.out).mono ?_); (case side1 => exact pC (Kd.R_reads' HO_115000.out).2.2); (case side2 => exact (Kd.R_reads' HO_115000.out).2.1); (case side3 => exact pC (Kd.R_reads' HO_115001.out).2.2); (case side4 => exact (Kd.R_reads' HO_115001.out).2.1); rintro e w124 ⟨v172, v175, rfl, ho0, ho1, hb⟩; refine ⟨_, rfl, ?_⟩; replace HO_8 := rb HO_8 hb; replace HO_11 := rb HO_11 hb; replace HO_13 := rb HO_13 hb; have HO173 := Aside0.mk (Kd.R_lower (Kd.R_new' ho0 (Kd.R_lt (pR HO_115000.out))) (below_size (pE HB))); replace HO_115000 := re HO_115000 ho0 hb; have HO176 := Aside0.mk (Kd.R_lower (Kd.R_new' ho1 (Kd.R_lt (pR HO_115001.out))) (below_size (pE HB))); replace HO_115001 := re HO_115001 ho1 hb; replace BK101 := bb BK101 hb; replace BK102 := bb BK102 hb; replace BK114 := bb BK114 hb; replace HB := bs HB hb; clear hb ho0 ho1) | ((with_reducible refine gc 46 rfl ?_); refine gL 209 Tryz.func46 #[.slice Ao32 t111.length co32] ?_; (with_reducible refine (walkmilllaw05_spans.calls _ _ t111 t179 _ ?side1 ?side2 A118.out).mono ?_); (case side1 => exact pC (Kd.R_reads' HO_8.out).2.2); (case side2 => exact (Kd.R_reads' HO_8.out).2.1); rintro e w125 ⟨v180, rfl, ho0, hb⟩; refine ⟨_, rfl, ?_⟩; replace HO_115000 := rb HO_115000 hb; replace HO_115001 := rb HO_115001 hb; replace HO173 := rb HO173 hb; replace HO176 := rb HO176 hb; have HO181 := Aside0.mk (Kd.R_lower (Kd.R_new' (Kd.R_new' (Kd.R_new' ho0 (Kd.R_lt (pR HO_8.out))) (Kd.R_lt (pR HO_11.out))) (Kd.R_lt (pR HO_13.out))) (below_size (pE HB))); replace HO_8 := re HO_8 ho0 hb; replace HO_11 := re HO_11 ho0 hb; replace HO_13 := re HO_13 ho0 hb; replace BK101 := bb BK101 hb; replace BK102 := bb BK102 hb; replace BK114 := bb BK114 hb; replace HB := bs HB hb; clear hb ho0; obtain ⟨Ao126, co126, eo126⟩ := Kd.R_slice HO173.out; subst eo126; obtain ⟨Ao127, co127, eo127⟩ := Kd.R_slice HO176.out; subst eo127; obtain ⟨Ao128, co128, eo128⟩ := Kd.R_slice HO181.out; subst eo128) | ((with_reducible refine gc 41 rfl ?_); refine gL 212 Tryz.func41 #[.agg #[.slice Ao126 t171.length co126, .slice Ao127 t174.length co127, .int .i64 t177, .int .i64 t178], .slice Ao128 t179.length co128, .int .i64 x17_2, .int .i64 (Int.tmod (wrap64 (a2_1)) (wrap64 ((t111.length : Int) + 1)))] ?_; (with_reducible refine (tenter_Late.calls kj90 _ _ t171 _ _ t174 t177 t178 _ _ t179 x17_2 (Int.tmod (wrap64 (a2_1)) (wrap64 ((t111.length : Int) + 1))) t182 t183 _ ?side1 ?side2 ?side3 ?side4 ?side5 ?side6 A119.out).mono ?_); (case side1 => exact pC (Kd.R_reads' HO173.out).2.2); (case side2 => exact (Kd.R_reads' HO173.out).2.1); (case side3 => exact pC (Kd.R_reads' HO176.out).2.2); (case side4 => exact (Kd.R_reads' HO176.out).2.1); (case side5 => exact pC (Kd.R_reads' HO181.out).2.2); (case side6 => exact (Kd.R_reads' HO181.out).2.1); rintro e w129 ⟨rfl, hb⟩; refine ⟨_, rfl, ?_⟩; replace HO_8 := rb HO_8 hb; replace HO_11 := rb HO_11 hb; replace HO_13 := rb HO_13 hb; replace HO_115000 := rb HO_115000 hb; replace HO_115001 := rb HO_115001 hb; replace HO173 := rb HO173 hb; replace HO176 := rb HO176 hb; replace HO181 := rb HO181 hb; replace BK101 := bb BK101 hb; replace BK102 := bb BK102 hb; replace BK114 := bb BK114 hb; replace HB := bs HB hb; clear hb))
               (try simp only [Act.put, List.setIfInBounds_toArray, List.set_cons_zero, List.set_cons_succ])
               go_cut [233] (fun v233 wc => ∃ (kq : Nat) (x233_119 : Bool), v233 = .bool x233_119 ∧ Aside0 (walkmilllaw05_TenterDry.j5 kq l1 t111 (Int.tmod (wrap64 (a2_0)) (wrap64 ((t111.length : Int) + 1))) (Int.tmod (wrap64 (a2_1)) (wrap64 ((t111.length : Int) + 1))) t126 t141 t156 t157 x17_2 t182 t183 x233_119 t103 t106 t109 t110 = some r) ∧ Aside0 (kq ≤ kj90) ∧ Aside0 (Kd.R k36 36 wc w.heap.size (fun k_ => some k_ ≠ ((.slice Ao83 t126.length co83) : Value).ownBlock ∧ some k_ ≠ (v142 : Value).ownBlock) (.slice Ao32 t111.length co32) t111) ∧ Aside0 (Kd.R k36 36 wc w.heap.size (fun k_ => some k_ ≠ ((.slice Ao32 t111.length co32) : Value).ownBlock ∧ some k_ ≠ (v142 : Value).ownBlock) (.slice Ao83 t126.length co83) t126) ∧ Aside0 (Kd.R k36 36 wc w.heap.size (fun k_ => some k_ ≠ ((.slice Ao32 t111.length co32) : Value).ownBlock ∧ some k_ ≠ ((.slice Ao83 t126.length co83) : Value).ownBlock) v142 t141) ∧ Aside0 (Kd.R k43 43 wc w.heap.size (fun _ => True) (.slice (some ad159) t103.length co24) t103) ∧ Aside0 (Kd.R (Kd.int .i64) 3 wc w.heap.size (fun _ => True) (.slice Ao26 t106.length co26) t106) ∧ Aside0 (wc.heap[gb101]? = some (.cells #[(.slice A0_0 l0_0.length c0_0), .int .u8 a0_1, .int .u8 a0_2, .int .u8 a0_3, .int .u8 a0_4, .int .u8 a0_5, (.slice A0_6 l0_6.length c0_6)] 79 (0, 0))) ∧ Aside0 (wc.heap[gb102]? = some (.cells #[.int .u8 a2_0, .int .u8 a2_1] 81 (0, 0))) ∧ Aside0 (wc.heap[gb114]? = some (.cells #[(.slice (some ad159) t103.length co24), (.slice Ao26 t106.length co26), .int .i64 t109, .int .i64 t110] 25 (0, 0))) ∧ Aside0 (Below w.heap.size w wc))
               case first =>
                have H := HC120.out
                clear HC120
                by_cases c130 : t183 = 0
                ·
                 rw [if_pos c130] at H
                 have c130b0 : (t183 == 0) = true := beq_iff_eq.mpr c130
                 have c130b1 : (t183 != 0) = false := bne_eq_false_iff_eq.mpr c130
                 clear c130
                 (first | rw [c130b0] | (simp only [i64_w, i32_w]; rw [c130b0]) | skip)
                 by_cases c131 : t182 < 0
                 ·
                  rw [if_pos c131] at H
                  have c131b0 : decide (t182 < 0) = true := decide_eq_true c131
                  clear c131
                  exact (walkmilllaw05_TenterDry.dead_j5 _ _ _ _ _ _ _ _ _ _ _ _ _ _ _ _ _ H HRT.out).elim
                 ·
                  rw [if_neg c131] at H
                  have c131b0 : decide (t182 < 0) = false := decide_eq_false c131
                  clear c131
                  have H' := Aside0.mk H
                  clear H
                  go_wp2
                  go_meet
                  case rel => exact ⟨_, (decide (t182 > (Int.tmod (wrap64 (a2_1)) (wrap64 ((t111.length : Int) + 1))))), (by first | rfl | (simp; done) | (simp [*]; done)), H', ⟨by have := HJ15.out; have := HK2.out; have := HJ81.out; have := HJ90.out; first | omega | exact Nat.le_refl _⟩, ⟨by (with_reducible repeat (first | apply Kd.R_alloc | apply Kd.R_drewN | apply Kd.R_drew)); exact Kd.R_mono HO_8.out (fun _ hk => ⟨hk.1.1, hk.1.2⟩)⟩, ⟨by (with_reducible repeat (first | apply Kd.R_alloc | apply Kd.R_drewN | apply Kd.R_drew)); exact Kd.R_mono HO_11.out (fun _ hk => ⟨hk.1.1, hk.1.2⟩)⟩, ⟨by (with_reducible repeat (first | apply Kd.R_alloc | apply Kd.R_drewN | apply Kd.R_drew)); exact Kd.R_mono HO_13.out (fun _ hk => ⟨hk.1.1, hk.1.2⟩)⟩, ⟨by (with_reducible repeat (first | apply Kd.R_alloc | apply Kd.R_drewN | apply Kd.R_drew)); exact Kd.R_mono HO_115000.out (fun _ hk => trivial)⟩, ⟨by (with_reducible repeat (first | apply Kd.R_alloc | apply Kd.R_drewN | apply Kd.R_drew)); exact Kd.R_mono HO_115001.out (fun _ hk => trivial)⟩, ⟨by (with_reducible repeat (first | refine blk_drewN ?_ _ | refine blk_drew ?_ | refine blk_alloc ?_ _)); exact BK101.out⟩, ⟨by (with_reducible repeat (first | refine blk_drewN ?_ _ | refine blk_drew ?_ | refine blk_alloc ?_ _)); exact BK102.out⟩, ⟨by (with_reducible repeat (first | refine blk_drewN ?_ _ | refine blk_drew ?_ | refine blk_alloc ?_ _)); exact BK114.out⟩, ⟨pE HB⟩⟩
                ·
                 rw [if_neg c130] at H
                 have c130b0 : (t183 == 0) = false := beq_eq_false_iff_ne.mpr c130
                 have c130b1 : (t183 != 0) = true := bne_iff_ne.mpr c130
                 (first | rw [c130b0] | (simp only [i64_w, i32_w]; rw [c130b0]) | skip)
                 by_cases c132 : t183 = 9
                 ·
                  rw [if_pos c132] at H
                  have c132b0 : (t183 == 9) = true := beq_iff_eq.mpr c132
                  have c132b1 : (t183 != 9) = false := bne_eq_false_iff_eq.mpr c132
                  clear c132
                  by_cases c133 : t182 = 0
                  ·
                   rw [if_pos c133] at H
                   have c133b0 : (t182 == 0) = true := beq_iff_eq.mpr c133
                   have c133b1 : (t182 != 0) = false := bne_eq_false_iff_eq.mpr c133
                   clear c133
                   by_cases c134 : t182 < 0
                   ·
                    rw [if_pos c134] at H
                    have c134b0 : decide (t182 < 0) = true := decide_eq_true c134
                    clear c134
                    exact (walkmilllaw05_TenterDry.dead_j5 _ _ _ _ _ _ _ _ _ _ _ _ _ _ _ _ _ H HRT.out).elim
                   ·
                    rw [if_neg c134] at H
                    have c134b0 : decide (t182 < 0) = false := decide_eq_false c134
                    clear c134
                    have H' := Aside0.mk H
                    clear H
                    go_wp2
                    go_meet
                    case rel => exact ⟨_, (decide (t182 > (Int.tmod (wrap64 (a2_1)) (wrap64 ((t111.length : Int) + 1))))), (by first | rfl | (simp; done) | (simp [*]; done)), H', ⟨by have := HJ15.out; have := HK2.out; have := HJ81.out; have := HJ90.out; first | omega | exact Nat.le_refl _⟩, ⟨by (with_reducible repeat (first | apply Kd.R_alloc | apply Kd.R_drewN | apply Kd.R_drew)); exact Kd.R_mono HO_8.out (fun _ hk => ⟨hk.1.1, hk.1.2⟩)⟩, ⟨by (with_reducible repeat (first | apply Kd.R_alloc | apply Kd.R_drewN | apply Kd.R_drew)); exact Kd.R_mono HO_11.out (fun _ hk => ⟨hk.1.1, hk.1.2⟩)⟩, ⟨by (with_reducible repeat (first | apply Kd.R_alloc | apply Kd.R_drewN | apply Kd.R_drew)); exact Kd.R_mono HO_13.out (fun _ hk => ⟨hk.1.1, hk.1.2⟩)⟩, ⟨by (with_reducible repeat (first | apply Kd.R_alloc | apply Kd.R_drewN | apply Kd.R_drew)); exact Kd.R_mono HO_115000.out (fun _ hk => trivial)⟩, ⟨by (with_reducible repeat (first | apply Kd.R_alloc | apply Kd.R_drewN | apply Kd.R_drew)); exact Kd.R_mono HO_115001.out (fun _ hk => trivial)⟩, ⟨by (with_reducible repeat (first | refine blk_drewN ?_ _ | refine blk_drew ?_ | refine blk_alloc ?_ _)); exact BK101.out⟩, ⟨by (with_reducible repeat (first | refine blk_drewN ?_ _ | refine blk_drew ?_ | refine blk_alloc ?_ _)); exact BK102.out⟩, ⟨by (with_reducible repeat (first | refine blk_drewN ?_ _ | refine blk_drew ?_ | refine blk_alloc ?_ _)); exact BK114.out⟩, ⟨pE HB⟩⟩
                  ·
                   rw [if_neg c133] at H
                   have c133b0 : (t182 == 0) = false := beq_eq_false_iff_ne.mpr c133
                   have c133b1 : (t182 != 0) = true := bne_iff_ne.mpr c133
                   exact (walkmilllaw05_TenterDry.dead_j5 _ _ _ _ _ _ _ _ _ _ _ _ _ _ _ _ _ H HRT.out).elim
                 ·
                  rw [if_neg c132] at H
                  have c132b0 : (t183 == 9) = false := beq_eq_false_iff_ne.mpr c132
                  have c132b1 : (t183 != 9) = true := bne_iff_ne.mpr c132
                  exact (walkmilllaw05_TenterDry.dead_j5 _ _ _ _ _ _ _ _ _ _ _ _ _ _ _ _ _ H HRT.out).elim
               case rest =>
                as_aux_lemma =>
                clear HC120
                try clear c1
                try clear p1
                try clear q1
                try clear hx1
                try clear p2
                try clear c3
                try clear c4
                try clear c5
                try clear c6
                try clear p6
                try clear c7
                try clear c8
                try clear c9
                try clear c10
                try clear c11
                try clear c12
                try clear c13
                try clear p15
                try clear q15
                try clear hx15
                try clear p16
                try clear q16
                try clear hx16
                try clear p17
                try clear q17
                try clear hx17
                try clear c33
                try clear c34
                try clear c38
                try clear c41
                try clear c43
                try clear c44
                try clear c45
                try clear c46
                try clear c47
                try clear c48
                try clear c56
                try clear c56b0
                try clear c56b1
                try clear c57
                try clear c57b0
                try clear c57b1
                try clear c58
                try clear c58b0
                try clear c58b1
                try clear c59
                try clear c59b0
                try clear c59b1
                try clear c59b2
                try clear c60
                try clear c60b0
                try clear c60b1
                try clear c60b2
                try clear c61
                try clear c61b0
                try clear c63
                try clear c64
                try clear p64
                try clear c67
                try clear c67b0
                try clear c67b1
                try clear c68
                try clear c68b0
                try clear c68b1
                try clear c69
                try clear c69b0
                try clear c69b1
                try clear c69b2
                try clear c70
                try clear c70b0
                try clear c70b1
                try clear c70b2
                try clear c72
                try clear c73
                try clear c76
                try clear c77
                try clear c77b0
                try clear c78
                try clear c78b0
                try clear c79
                try clear c79b0
                try clear c86
                try clear c86b0
                try clear c88
                try clear c88b0
                try clear c92
                try clear c92b0
                try clear c93
                try clear c93b0
                try clear c94
                try clear c94b0
                try clear c95
                try clear c95b0
                try clear c96
                try clear c96b0
                try clear c96b1
                try clear c97
                try clear c97b0
                try clear c98
                try clear c98b0
                try clear c99
                try clear c99b0
                try clear c100
                try clear c100b0
                try clear c100b1
                try clear c103
                try clear c103b0
                try clear c103b1
                try clear c104
                try clear c104b0
                try clear c105
                try clear c105b0
                try clear c106
                try clear c106b0
                try clear c106b1
                try clear c109
                try clear c109b0
                try clear c109b1
                try clear c110
                try clear c110b0
                try clear c112
                try clear c112b0
                try clear c112b1
                try clear c113
                try clear c113b0
                try clear c114
                try clear c114b0
                try clear c116
                try clear c121
                try clear c122
                try clear c130
                try clear c130b0
                try clear c130b1
                try clear c131
                try clear c131b0
                try clear c132
                try clear c132b0
                try clear c132b1
                try clear c133
                try clear c133b0
                try clear c133b1
                try clear c134
                try clear c134b0
                try clear hcz123_0
                try clear hcz123_1
                try clear hcz123_2
                try clear hcz123_3
                try clear hcz35_0
                try clear hcz35_1
                try clear hcz35_2
                try clear hcz35_3
                try clear hcz42_0
                try clear hcz42_1
                try clear hcz42_2
                try clear hcz42_3
                try clear hcz49_0
                try clear hcz49_1
                try clear hcz49_2
                try clear hcz49_3
                try clear hcz65_0
                try clear hcz65_1
                try clear hcz65_2
                try clear hcz65_3
                try clear hcz74_0
                try clear hcz74_1
                try clear hcz74_2
                try clear hcz74_3
                try clear hfz123_0
                try clear hfz123_1
                try clear hfz123_2
                try clear hfz123_3
                try clear hfz35_0
                try clear hfz35_1
                try clear hfz35_2
                try clear hfz35_3
                try clear hfz42_0
                try clear hfz42_1
                try clear hfz42_2
                try clear hfz42_3
                try clear hfz49_0
                try clear hfz49_1
                try clear hfz49_2
                try clear hfz49_3
                try clear hfz65_0
                try clear hfz65_1
                try clear hfz65_2
                try clear hfz65_3
                try clear hfz74_0
                try clear hfz74_1
                try clear hfz74_2
                try clear hfz74_3
                try clear hx159_0
                try clear hx159_1
                try clear hx159_2
                try clear hx159_3
                try clear hx163_0
                try clear hx163_1
                try clear hx164_0
                try clear hx164_1
                try clear hx165_0
                try clear hx165_1
                try clear hx166_0
                try clear hx166_1
                try clear hx167_0
                try clear hx167_1
                try clear hx168_0
                try clear hx168_1
                try clear hx169_0
                try clear hx169_1
                try clear hx170_0
                try clear hx170_1
                try clear p1
                try clear p15
                try clear p159
                try clear p16
                try clear p163
                try clear p164
                try clear p165
                try clear p166
                try clear p167
                try clear p168
                try clear p169
                try clear p17
                try clear p170
                try clear p2
                try clear p6
                try clear p64
                try clear q1
                try clear q15
                try clear q159
                try clear q16
                try clear q163
                try clear q164
                try clear q165
                try clear q166
                try clear q167
                try clear q168
                try clear q169
                try clear q17
                try clear q170
                obtain ⟨kq, x233_119, rfl, HA, HJ119, HO_8, HO_11, HO_13, HO_115000, HO_115001, BK101, BK102, BK114, HB⟩ := hcut
                cases kq with
                | zero => exact absurd HA.out (by simp [walkmilllaw05_TenterDry.j5])
                | succ kj119 =>
                 have H := HA.out
                 clear HA
                 simp only [walkmilllaw05_TenterDry.j5] at H
                 by_cases c135 : x233_119 = true
                 ·
                  subst c135
                  rw [if_pos rfl] at H
                  exact absurd ((Option.some.inj H).trans HRT.out) (by simp)
                 ·
                  replace c135 := Bool.eq_false_iff.mpr c135
                  subst c135
                  rw [if_neg (show ¬ (false = true) by decide)] at H
                  have HC136 := Aside0.mk H
                  clear H
                  go_upto_if 235 with (fail)
                  go_cut [20] (fun v20 wc => ∃ (kq : Nat) (x20_135 : Int), v20 = .int .i64 x20_135 ∧ Aside0 (walkmilllaw05_TenterDry.j6 kq l1 t111 (Int.tmod (wrap64 (a2_0)) (wrap64 ((t111.length : Int) + 1))) (Int.tmod (wrap64 (a2_1)) (wrap64 ((t111.length : Int) + 1))) t126 t141 t156 t157 x17_2 x20_135 t103 t106 t109 t110 = some r) ∧ Aside0 (kq ≤ kj119) ∧ Aside0 (Kd.R k36 36 wc w.heap.size (fun k_ => some k_ ≠ ((.slice Ao83 t126.length co83) : Value).ownBlock ∧ some k_ ≠ (v142 : Value).ownBlock) (.slice Ao32 t111.length co32) t111) ∧ Aside0 (Kd.R k36 36 wc w.heap.size (fun k_ => some k_ ≠ ((.slice Ao32 t111.length co32) : Value).ownBlock ∧ some k_ ≠ (v142 : Value).ownBlock) (.slice Ao83 t126.length co83) t126) ∧ Aside0 (Kd.R k36 36 wc w.heap.size (fun k_ => some k_ ≠ ((.slice Ao32 t111.length co32) : Value).ownBlock ∧ some k_ ≠ ((.slice Ao83 t126.length co83) : Value).ownBlock) v142 t141) ∧ Aside0 (Kd.R k43 43 wc w.heap.size (fun _ => True) (.slice (some ad159) t103.length co24) t103) ∧ Aside0 (Kd.R (Kd.int .i64) 3 wc w.heap.size (fun _ => True) (.slice Ao26 t106.length co26) t106) ∧ Aside0 (wc.heap[gb101]? = some (.cells #[(.slice A0_0 l0_0.length c0_0), .int .u8 a0_1, .int .u8 a0_2, .int .u8 a0_3, .int .u8 a0_4, .int .u8 a0_5, (.slice A0_6 l0_6.length c0_6)] 79 (0, 0))) ∧ Aside0 (wc.heap[gb102]? = some (.cells #[.int .u8 a2_0, .int .u8 a2_1] 81 (0, 0))) ∧ Aside0 (wc.heap[gb114]? = some (.cells #[(.slice (some ad159) t103.length co24), (.slice Ao26 t106.length co26), .int .i64 t109, .int .i64 t110] 25 (0, 0))) ∧ Aside0 (Below w.heap.size w wc))
                  case first =>
                   have H := HC136.out
                   clear HC136
                   by_cases c137 : t183 = 0
                   ·
                    rw [if_pos c137] at H
                    have c137b0 : (t183 == 0) = true := beq_iff_eq.mpr c137
                    have c137b1 : (t183 != 0) = false := bne_eq_false_iff_eq.mpr c137
                    clear c137
                    (first | rw [c137b0] | (simp only [i64_w, i32_w]; rw [c137b0]) | skip)
                    have H' := Aside0.mk H
                    clear H
                    go_wp2
                    go_meet
                    case rel => exact ⟨_, (t182), (by first | rfl | (simp; done) | (simp [*]; done)), H', ⟨by have := HJ15.out; have := HK2.out; have := HJ81.out; have := HJ90.out; have := HJ119.out; first | omega | exact Nat.le_refl _⟩, ⟨by (with_reducible repeat (first | apply Kd.R_alloc | apply Kd.R_drewN | apply Kd.R_drew)); exact HO_8.out⟩, ⟨by (with_reducible repeat (first | apply Kd.R_alloc | apply Kd.R_drewN | apply Kd.R_drew)); exact HO_11.out⟩, ⟨by (with_reducible repeat (first | apply Kd.R_alloc | apply Kd.R_drewN | apply Kd.R_drew)); exact HO_13.out⟩, ⟨by (with_reducible repeat (first | apply Kd.R_alloc | apply Kd.R_drewN | apply Kd.R_drew)); exact HO_115000.out⟩, ⟨by (with_reducible repeat (first | apply Kd.R_alloc | apply Kd.R_drewN | apply Kd.R_drew)); exact HO_115001.out⟩, ⟨by (with_reducible repeat (first | refine blk_drewN ?_ _ | refine blk_drew ?_ | refine blk_alloc ?_ _)); exact BK101.out⟩, ⟨by (with_reducible repeat (first | refine blk_drewN ?_ _ | refine blk_drew ?_ | refine blk_alloc ?_ _)); exact BK102.out⟩, ⟨by (with_reducible repeat (first | refine blk_drewN ?_ _ | refine blk_drew ?_ | refine blk_alloc ?_ _)); exact BK114.out⟩, ⟨pE HB⟩⟩
                   ·
                    rw [if_neg c137] at H
                    have c137b0 : (t183 == 0) = false := beq_eq_false_iff_ne.mpr c137
                    have c137b1 : (t183 != 0) = true := bne_iff_ne.mpr c137
                    (first | rw [c137b0] | (simp only [i64_w, i32_w]; rw [c137b0]) | skip)
                    have H' := Aside0.mk H
                    clear H
                    go_wp2
                    go_meet
                    case rel => exact ⟨_, ((-1)), (by first | rfl | (simp; done) | (simp [*]; done)), H', ⟨by have := HJ15.out; have := HK2.out; have := HJ81.out; have := HJ90.out; have := HJ119.out; first | omega | exact Nat.le_refl _⟩, ⟨by (with_reducible repeat (first | apply Kd.R_alloc | apply Kd.R_drewN | apply Kd.R_drew)); exact HO_8.out⟩, ⟨by (with_reducible repeat (first | apply Kd.R_alloc | apply Kd.R_drewN | apply Kd.R_drew)); exact HO_11.out⟩, ⟨by (with_reducible repeat (first | apply Kd.R_alloc | apply Kd.R_drewN | apply Kd.R_drew)); exact HO_13.out⟩, ⟨by (with_reducible repeat (first | apply Kd.R_alloc | apply Kd.R_drewN | apply Kd.R_drew)); exact HO_115000.out⟩, ⟨by (with_reducible repeat (first | apply Kd.R_alloc | apply Kd.R_drewN | apply Kd.R_drew)); exact HO_115001.out⟩, ⟨by (with_reducible repeat (first | refine blk_drewN ?_ _ | refine blk_drew ?_ | refine blk_alloc ?_ _)); exact BK101.out⟩, ⟨by (with_reducible repeat (first | refine blk_drewN ?_ _ | refine blk_drew ?_ | refine blk_alloc ?_ _)); exact BK102.out⟩, ⟨by (with_reducible repeat (first | refine blk_drewN ?_ _ | refine blk_drew ?_ | refine blk_alloc ?_ _)); exact BK114.out⟩, ⟨pE HB⟩⟩
                  case rest =>
                   as_aux_lemma =>
                   clear HC136
                   try clear c1
                   try clear p1
                   try clear q1
                   try clear hx1
                   try clear p2
                   try clear c3
                   try clear c4
                   try clear c5
                   try clear c6
                   try clear p6
                   try clear c7
                   try clear c8
                   try clear c9
                   try clear c10
                   try clear c11
                   try clear c12
                   try clear c13
                   try clear p15
                   try clear q15
                   try clear hx15
                   try clear p16
                   try clear q16
                   try clear hx16
                   try clear p17
                   try clear q17
                   try clear hx17
                   try clear c33
                   try clear c34
                   try clear c38
                   try clear c41
                   try clear c43
                   try clear c44
                   try clear c45
                   try clear c46
                   try clear c47
                   try clear c48
                   try clear c56
                   try clear c56b0
                   try clear c56b1
                   try clear c57
                   try clear c57b0
                   try clear c57b1
                   try clear c58
                   try clear c58b0
                   try clear c58b1
                   try clear c59
                   try clear c59b0
                   try clear c59b1
                   try clear c59b2
                   try clear c60
                   try clear c60b0
                   try clear c60b1
                   try clear c60b2
                   try clear c61
                   try clear c61b0
                   try clear c63
                   try clear c64
                   try clear p64
                   try clear c67
                   try clear c67b0
                   try clear c67b1
                   try clear c68
                   try clear c68b0
                   try clear c68b1
                   try clear c69
                   try clear c69b0
                   try clear c69b1
                   try clear c69b2
                   try clear c70
                   try clear c70b0
                   try clear c70b1
                   try clear c70b2
                   try clear c72
                   try clear c73
                   try clear c76
                   try clear c77
                   try clear c77b0
                   try clear c78
                   try clear c78b0
                   try clear c79
                   try clear c79b0
                   try clear c86
                   try clear c86b0
                   try clear c88
                   try clear c88b0
                   try clear c92
                   try clear c92b0
                   try clear c93
                   try clear c93b0
                   try clear c94
                   try clear c94b0
                   try clear c95
                   try clear c95b0
                   try clear c96
                   try clear c96b0
                   try clear c96b1
                   try clear c97
                   try clear c97b0
                   try clear c98
                   try clear c98b0
                   try clear c99
                   try clear c99b0
                   try clear c100
                   try clear c100b0
                   try clear c100b1
                   try clear c103
                   try clear c103b0
                   try clear c103b1
                   try clear c104
                   try clear c104b0
                   try clear c105
                   try clear c105b0
                   try clear c106
                   try clear c106b0
                   try clear c106b1
                   try clear c109
                   try clear c109b0
                   try clear c109b1
                   try clear c110
                   try clear c110b0
                   try clear c112
                   try clear c112b0
                   try clear c112b1
                   try clear c113
                   try clear c113b0
                   try clear c114
                   try clear c114b0
                   try clear c116
                   try clear c121
                   try clear c122
                   try clear c130
                   try clear c130b0
                   try clear c130b1
                   try clear c131
                   try clear c131b0
                   try clear c132
                   try clear c132b0
                   try clear c132b1
                   try clear c133
                   try clear c133b0
                   try clear c133b1
                   try clear c134
                   try clear c134b0
                   try clear c135
                   try clear c137
                   try clear c137b0
                   try clear c137b1
                   try clear hcz123_0
                   try clear hcz123_1
                   try clear hcz123_2
                   try clear hcz123_3
                   try clear hcz35_0
                   try clear hcz35_1
                   try clear hcz35_2
                   try clear hcz35_3
                   try clear hcz42_0
                   try clear hcz42_1
                   try clear hcz42_2
                   try clear hcz42_3
                   try clear hcz49_0
                   try clear hcz49_1
                   try clear hcz49_2
                   try clear hcz49_3
                   try clear hcz65_0
                   try clear hcz65_1
                   try clear hcz65_2
                   try clear hcz65_3
                   try clear hcz74_0
                   try clear hcz74_1
                   try clear hcz74_2
                   try clear hcz74_3
                   try clear hfz123_0
                   try clear hfz123_1
                   try clear hfz123_2
                   try clear hfz123_3
                   try clear hfz35_0
                   try clear hfz35_1
                   try clear hfz35_2
                   try clear hfz35_3
                   try clear hfz42_0
                   try clear hfz42_1
                   try clear hfz42_2
                   try clear hfz42_3
                   try clear hfz49_0
                   try clear hfz49_1
                   try clear hfz49_2
                   try clear hfz49_3
                   try clear hfz65_0
                   try clear hfz65_1
                   try clear hfz65_2
                   try clear hfz65_3
                   try clear hfz74_0
                   try clear hfz74_1
                   try clear hfz74_2
                   try clear hfz74_3
                   try clear hx159_0
                   try clear hx159_1
                   try clear hx159_2
                   try clear hx159_3
                   try clear hx163_0
                   try clear hx163_1
                   try clear hx164_0
                   try clear hx164_1
                   try clear hx165_0
                   try clear hx165_1
                   try clear hx166_0
                   try clear hx166_1
                   try clear hx167_0
                   try clear hx167_1
                   try clear hx168_0
                   try clear hx168_1
                   try clear hx169_0
                   try clear hx169_1
                   try clear hx170_0
                   try clear hx170_1
                   try clear p1
                   try clear p15
                   try clear p159
                   try clear p16
                   try clear p163
                   try clear p164
                   try clear p165
                   try clear p166
                   try clear p167
                   try clear p168
                   try clear p169
                   try clear p17
                   try clear p170
                   try clear p2
                   try clear p6
                   try clear p64
                   try clear q1
                   try clear q15
                   try clear q159
                   try clear q16
                   try clear q163
                   try clear q164
                   try clear q165
                   try clear q166
                   try clear q167
                   try clear q168
                   try clear q169
                   try clear q17
                   try clear q170
                   obtain ⟨kq, x20_135, rfl, HA, HJ135, HO_8, HO_11, HO_13, HO_115000, HO_115001, BK101, BK102, BK114, HB⟩ := hcut
                   cases kq with
                   | zero => exact absurd HA.out (by simp [walkmilllaw05_TenterDry.j6])
                   | succ kj135 =>
                    have H := HA.out
                    clear HA
                    simp only [walkmilllaw05_TenterDry.j6] at H
                    have H' := Aside0.mk H
                    clear H
                    go_wp2
                    go_loopg [22] kj135 (fun kq v22 w' => ∃ (x22_7 : Int), v22 = .int .i64 x22_7 ∧ Aside0 (walkmilllaw05_TenterDry.l2 kq l1 t111 (Int.tmod (wrap64 (a2_0)) (wrap64 ((t111.length : Int) + 1))) (Int.tmod (wrap64 (a2_1)) (wrap64 ((t111.length : Int) + 1))) t126 t141 t156 t157 x17_2 x20_135 x22_7 t103 t106 t109 t110 = some r) ∧ Aside0 (kq ≤ kj135) ∧ Aside0 (Kd.R k36 36 w' w.heap.size (fun k_ => some k_ ≠ ((.slice Ao83 t126.length co83) : Value).ownBlock ∧ some k_ ≠ (v142 : Value).ownBlock) (.slice Ao32 t111.length co32) t111) ∧ Aside0 (Kd.R k36 36 w' w.heap.size (fun k_ => some k_ ≠ ((.slice Ao32 t111.length co32) : Value).ownBlock ∧ some k_ ≠ (v142 : Value).ownBlock) (.slice Ao83 t126.length co83) t126) ∧ Aside0 (Kd.R k36 36 w' w.heap.size (fun k_ => some k_ ≠ ((.slice Ao32 t111.length co32) : Value).ownBlock ∧ some k_ ≠ ((.slice Ao83 t126.length co83) : Value).ownBlock) v142 t141) ∧ Aside0 (Kd.R k43 43 w' w.heap.size (fun _ => True) (.slice (some ad159) t103.length co24) t103) ∧ Aside0 (Kd.R (Kd.int .i64) 3 w' w.heap.size (fun _ => True) (.slice Ao26 t106.length co26) t106) ∧ Aside0 (w'.heap[gb101]? = some (.cells #[(.slice A0_0 l0_0.length c0_0), .int .u8 a0_1, .int .u8 a0_2, .int .u8 a0_3, .int .u8 a0_4, .int .u8 a0_5, (.slice A0_6 l0_6.length c0_6)] 79 (0, 0))) ∧ Aside0 (w'.heap[gb102]? = some (.cells #[.int .u8 a2_0, .int .u8 a2_1] 81 (0, 0))) ∧ Aside0 (w'.heap[gb114]? = some (.cells #[(.slice (some ad159) t103.length co24), (.slice Ao26 t106.length co26), .int .i64 t109, .int .i64 t110] 25 (0, 0))) ∧ Aside0 (Below w.heap.size w w'))
                    case atStart => exact ⟨(0), (by first | rfl | (simp; done) | (simp [*]; done)), H', ⟨Nat.le_refl _⟩, ⟨by (with_reducible repeat (first | apply Kd.R_alloc | apply Kd.R_drewN | apply Kd.R_drew)); exact HO_8.out⟩, ⟨by (with_reducible repeat (first | apply Kd.R_alloc | apply Kd.R_drewN | apply Kd.R_drew)); exact HO_11.out⟩, ⟨by (with_reducible repeat (first | apply Kd.R_alloc | apply Kd.R_drewN | apply Kd.R_drew)); exact HO_13.out⟩, ⟨by (with_reducible repeat (first | apply Kd.R_alloc | apply Kd.R_drewN | apply Kd.R_drew)); exact HO_115000.out⟩, ⟨by (with_reducible repeat (first | apply Kd.R_alloc | apply Kd.R_drewN | apply Kd.R_drew)); exact HO_115001.out⟩, ⟨by (with_reducible repeat (first | refine blk_drewN ?_ _ | refine blk_drew ?_ | refine blk_alloc ?_ _)); exact BK101.out⟩, ⟨by (with_reducible repeat (first | refine blk_drewN ?_ _ | refine blk_drew ?_ | refine blk_alloc ?_ _)); exact BK102.out⟩, ⟨by (with_reducible repeat (first | refine blk_drewN ?_ _ | refine blk_drew ?_ | refine blk_alloc ?_ _)); exact BK114.out⟩, ⟨pE HB⟩⟩
                    case round =>
                     as_aux_lemma =>
                     clear H'
                     try clear c1
                     try clear p1
                     try clear q1
                     try clear hx1
                     try clear p2
                     try clear c3
                     try clear c4
                     try clear c5
                     try clear c6
                     try clear p6
                     try clear c7
                     try clear c8
                     try clear c9
                     try clear c10
                     try clear c11
                     try clear c12
                     try clear c13
                     try clear p15
                     try clear q15
                     try clear hx15
                     try clear p16
                     try clear q16
                     try clear hx16
                     try clear p17
                     try clear q17
                     try clear hx17
                     try clear c33
                     try clear c34
                     try clear c38
                     try clear c41
                     try clear c43
                     try clear c44
                     try clear c45
                     try clear c46
                     try clear c47
                     try clear c48
                     try clear c56
                     try clear c56b0
                     try clear c56b1
                     try clear c57
                     try clear c57b0
                     try clear c57b1
                     try clear c58
                     try clear c58b0
                     try clear c58b1
                     try clear c59
                     try clear c59b0
                     try clear c59b1
                     try clear c59b2
                     try clear c60
                     try clear c60b0
                     try clear c60b1
                     try clear c60b2
                     try clear c61
                     try clear c61b0
                     try clear c63
                     try clear c64
                     try clear p64
                     try clear c67
                     try clear c67b0
                     try clear c67b1
                     try clear c68
                     try clear c68b0
                     try clear c68b1
                     try clear c69
                     try clear c69b0
                     try clear c69b1
                     try clear c69b2
                     try clear c70
                     try clear c70b0
                     try clear c70b1
                     try clear c70b2
                     try clear c72
                     try clear c73
                     try clear c76
                     try clear c77
                     try clear c77b0
                     try clear c78
                     try clear c78b0
                     try clear c79
                     try clear c79b0
                     try clear c86
                     try clear c86b0
                     try clear c88
                     try clear c88b0
                     try clear c92
                     try clear c92b0
                     try clear c93
                     try clear c93b0
                     try clear c94
                     try clear c94b0
                     try clear c95
                     try clear c95b0
                     try clear c96
                     try clear c96b0
                     try clear c96b1
                     try clear c97
                     try clear c97b0
                     try clear c98
                     try clear c98b0
                     try clear c99
                     try clear c99b0
                     try clear c100
                     try clear c100b0
                     try clear c100b1
                     try clear c103
                     try clear c103b0
                     try clear c103b1
                     try clear c104
                     try clear c104b0
                     try clear c105
                     try clear c105b0
                     try clear c106
                     try clear c106b0
                     try clear c106b1
                     try clear c109
                     try clear c109b0
                     try clear c109b1
                     try clear c110
                     try clear c110b0
                     try clear c112
                     try clear c112b0
                     try clear c112b1
                     try clear c113
                     try clear c113b0
                     try clear c114
                     try clear c114b0
                     try clear c116
                     try clear c121
                     try clear c122
                     try clear c130
                     try clear c130b0
                     try clear c130b1
                     try clear c131
                     try clear c131b0
                     try clear c132
                     try clear c132b0
                     try clear c132b1
                     try clear c133
                     try clear c133b0
                     try clear c133b1
                     try clear c134
                     try clear c134b0
                     try clear c135
                     try clear c137
                     try clear c137b0
                     try clear c137b1
                     try clear hcz123_0
                     try clear hcz123_1
                     try clear hcz123_2
                     try clear hcz123_3
                     try clear hcz35_0
                     try clear hcz35_1
                     try clear hcz35_2
                     try clear hcz35_3
                     try clear hcz42_0
                     try clear hcz42_1
                     try clear hcz42_2
                     try clear hcz42_3
                     try clear hcz49_0
                     try clear hcz49_1
                     try clear hcz49_2
                     try clear hcz49_3
                     try clear hcz65_0
                     try clear hcz65_1
                     try clear hcz65_2
                     try clear hcz65_3
                     try clear hcz74_0
                     try clear hcz74_1
                     try clear hcz74_2
                     try clear hcz74_3
                     try clear hfz123_0
                     try clear hfz123_1
                     try clear hfz123_2
                     try clear hfz123_3
                     try clear hfz35_0
                     try clear hfz35_1
                     try clear hfz35_2
                     try clear hfz35_3
                     try clear hfz42_0
                     try clear hfz42_1
                     try clear hfz42_2
                     try clear hfz42_3
                     try clear hfz49_0
                     try clear hfz49_1
                     try clear hfz49_2
                     try clear hfz49_3
                     try clear hfz65_0
                     try clear hfz65_1
                     try clear hfz65_2
                     try clear hfz65_3
                     try clear hfz74_0
                     try clear hfz74_1
                     try clear hfz74_2
                     try clear hfz74_3
                     try clear hx159_0
                     try clear hx159_1
                     try clear hx159_2
                     try clear hx159_3
                     try clear hx163_0
                     try clear hx163_1
                     try clear hx164_0
                     try clear hx164_1
                     try clear hx165_0
                     try clear hx165_1
                     try clear hx166_0
                     try clear hx166_1
                     try clear hx167_0
                     try clear hx167_1
                     try clear hx168_0
                     try clear hx168_1
                     try clear hx169_0
                     try clear hx169_1
                     try clear hx170_0
                     try clear hx170_1
                     try clear p1
                     try clear p15
                     try clear p159
                     try clear p16
                     try clear p163
                     try clear p164
                     try clear p165
                     try clear p166
                     try clear p167
                     try clear p168
                     try clear p169
                     try clear p17
                     try clear p170
                     try clear p2
                     try clear p6
                     try clear p64
                     try clear q1
                     try clear q15
                     try clear q159
                     try clear q16
                     try clear q163
                     try clear q164
                     try clear q165
                     try clear q166
                     try clear q167
                     try clear q168
                     try clear q169
                     try clear q17
                     try clear q170
                     obtain ⟨x22_7, rfl, HA, HK7, HO_8, HO_11, HO_13, HO_115000, HO_115001, BK101, BK102, BK114, HB⟩ := hrel
                     cases gk with
                     | zero => exact absurd HA.out (by simp [walkmilllaw05_TenterDry.l2])
                     | succ k7 =>
                      have H := HA.out
                      clear HA
                      simp only [walkmilllaw05_TenterDry.l2] at H
                      by_cases c138 : x22_7 < 2
                      ·
                       rw [if_pos c138] at H
                       have c138b0 : decide (x22_7 < 2) = true := decide_eq_true c138
                       clear c138
                       have HC139 := Aside0.mk H
                       clear H
                       go_upto_region 24 with (fail)
                       go_cut [250] (fun v250 wc => ∃ (kq : Nat) (x250_138 : Bool), v250 = .bool x250_138 ∧ Aside0 (walkmilllaw05_TenterDry.j8 kq l1 t111 (Int.tmod (wrap64 (a2_0)) (wrap64 ((t111.length : Int) + 1))) (Int.tmod (wrap64 (a2_1)) (wrap64 ((t111.length : Int) + 1))) t126 t141 t156 t157 x17_2 x20_135 x22_7 x250_138 t103 t106 t109 t110 = some r) ∧ Aside0 (kq ≤ k7) ∧ Aside0 (Kd.R k36 36 wc w.heap.size (fun k_ => some k_ ≠ ((.slice Ao83 t126.length co83) : Value).ownBlock ∧ some k_ ≠ (v142 : Value).ownBlock) (.slice Ao32 t111.length co32) t111) ∧ Aside0 (Kd.R k36 36 wc w.heap.size (fun k_ => some k_ ≠ ((.slice Ao32 t111.length co32) : Value).ownBlock ∧ some k_ ≠ (v142 : Value).ownBlock) (.slice Ao83 t126.length co83) t126) ∧ Aside0 (Kd.R k36 36 wc w.heap.size (fun k_ => some k_ ≠ ((.slice Ao32 t111.length co32) : Value).ownBlock ∧ some k_ ≠ ((.slice Ao83 t126.length co83) : Value).ownBlock) v142 t141) ∧ Aside0 (Kd.R k43 43 wc w.heap.size (fun _ => True) (.slice (some ad159) t103.length co24) t103) ∧ Aside0 (Kd.R (Kd.int .i64) 3 wc w.heap.size (fun _ => True) (.slice Ao26 t106.length co26) t106) ∧ Aside0 (wc.heap[gb101]? = some (.cells #[(.slice A0_0 l0_0.length c0_0), .int .u8 a0_1, .int .u8 a0_2, .int .u8 a0_3, .int .u8 a0_4, .int .u8 a0_5, (.slice A0_6 l0_6.length c0_6)] 79 (0, 0))) ∧ Aside0 (wc.heap[gb102]? = some (.cells #[.int .u8 a2_0, .int .u8 a2_1] 81 (0, 0))) ∧ Aside0 (wc.heap[gb114]? = some (.cells #[(.slice (some ad159) t103.length co24), (.slice Ao26 t106.length co26), .int .i64 t109, .int .i64 t110] 25 (0, 0))) ∧ Aside0 (Below w.heap.size w wc))
                       case first =>
                        have H := HC139.out
                        clear HC139
                        by_cases c140 : (wrap64 (x20_135 + x22_7)) < 0
                        ·
                         rw [if_pos c140] at H
                         have c140b0 : decide ((wrap64 (x20_135 + x22_7)) < 0) = true := decide_eq_true c140
                         clear c140
                         (first | rw [c140b0] | (simp only [i64_w, i32_w]; rw [c140b0]) | skip)
                         have H' := Aside0.mk H
                         clear H
                         go_wp2
                         go_meet
                         case rel => exact ⟨_, (true), (by first | rfl | (simp; done) | (simp [*]; done)), H', ⟨by have := HJ15.out; have := HK2.out; have := HJ81.out; have := HJ90.out; have := HJ119.out; have := HJ135.out; have := HK7.out; first | omega | exact Nat.le_refl _⟩, ⟨by (with_reducible repeat (first | apply Kd.R_alloc | apply Kd.R_drewN | apply Kd.R_drew)); exact HO_8.out⟩, ⟨by (with_reducible repeat (first | apply Kd.R_alloc | apply Kd.R_drewN | apply Kd.R_drew)); exact HO_11.out⟩, ⟨by (with_reducible repeat (first | apply Kd.R_alloc | apply Kd.R_drewN | apply Kd.R_drew)); exact HO_13.out⟩, ⟨by (with_reducible repeat (first | apply Kd.R_alloc | apply Kd.R_drewN | apply Kd.R_drew)); exact HO_115000.out⟩, ⟨by (with_reducible repeat (first | apply Kd.R_alloc | apply Kd.R_drewN | apply Kd.R_drew)); exact HO_115001.out⟩, ⟨by (with_reducible repeat (first | refine blk_drewN ?_ _ | refine blk_drew ?_ | refine blk_alloc ?_ _)); exact BK101.out⟩, ⟨by (with_reducible repeat (first | refine blk_drewN ?_ _ | refine blk_drew ?_ | refine blk_alloc ?_ _)); exact BK102.out⟩, ⟨by (with_reducible repeat (first | refine blk_drewN ?_ _ | refine blk_drew ?_ | refine blk_alloc ?_ _)); exact BK114.out⟩, ⟨pE HB⟩⟩
                        ·
                         rw [if_neg c140] at H
                         have c140b0 : decide ((wrap64 (x20_135 + x22_7)) < 0) = false := decide_eq_false c140
                         clear c140
                         (first | rw [c140b0] | (simp only [i64_w, i32_w]; rw [c140b0]) | skip)
                         have H' := Aside0.mk H
                         clear H
                         go_wp2
                         go_meet
                         case rel => exact ⟨_, (decide ((wrap64 (x20_135 + x22_7)) > (Int.tmod (wrap64 (a2_1)) (wrap64 ((t111.length : Int) + 1))))), (by first | rfl | (simp; done) | (simp [*]; done)), H', ⟨by have := HJ15.out; have := HK2.out; have := HJ81.out; have := HJ90.out; have := HJ119.out; have := HJ135.out; have := HK7.out; first | omega | exact Nat.le_refl _⟩, ⟨by (with_reducible repeat (first | apply Kd.R_alloc | apply Kd.R_drewN | apply Kd.R_drew)); exact HO_8.out⟩, ⟨by (with_reducible repeat (first | apply Kd.R_alloc | apply Kd.R_drewN | apply Kd.R_drew)); exact HO_11.out⟩, ⟨by (with_reducible repeat (first | apply Kd.R_alloc | apply Kd.R_drewN | apply Kd.R_drew)); exact HO_13.out⟩, ⟨by (with_reducible repeat (first | apply Kd.R_alloc | apply Kd.R_drewN | apply Kd.R_drew)); exact HO_115000.out⟩, ⟨by (with_reducible repeat (first | apply Kd.R_alloc | apply Kd.R_drewN | apply Kd.R_drew)); exact HO_115001.out⟩, ⟨by (with_reducible repeat (first | refine blk_drewN ?_ _ | refine blk_drew ?_ | refine blk_alloc ?_ _)); exact BK101.out⟩, ⟨by (with_reducible repeat (first | refine blk_drewN ?_ _ | refine blk_drew ?_ | refine blk_alloc ?_ _)); exact BK102.out⟩, ⟨by (with_reducible repeat (first | refine blk_drewN ?_ _ | refine blk_drew ?_ | refine blk_alloc ?_ _)); exact BK114.out⟩, ⟨pE HB⟩⟩
                       case rest =>
                        as_aux_lemma =>
                        clear HC139
                        try clear c1
                        try clear p1
                        try clear q1
                        try clear hx1
                        try clear p2
                        try clear c3
                        try clear c4
                        try clear c5
                        try clear c6
                        try clear p6
                        try clear c7
                        try clear c8
                        try clear c9
                        try clear c10
                        try clear c11
                        try clear c12
                        try clear c13
                        try clear c14
                        try clear p15
                        try clear q15
                        try clear hx15
                        try clear p16
                        try clear q16
                        try clear hx16
                        try clear p17
                        try clear q17
                        try clear hx17
                        try clear c33
                        try clear c34
                        try clear c38
                        try clear c41
                        try clear c43
                        try clear c44
                        try clear c45
                        try clear c46
                        try clear c47
                        try clear c48
                        try clear c56
                        try clear c56b0
                        try clear c56b1
                        try clear c57
                        try clear c57b0
                        try clear c57b1
                        try clear c58
                        try clear c58b0
                        try clear c58b1
                        try clear c59
                        try clear c59b0
                        try clear c59b1
                        try clear c59b2
                        try clear c60
                        try clear c60b0
                        try clear c60b1
                        try clear c60b2
                        try clear c61
                        try clear c61b0
                        try clear c63
                        try clear c64
                        try clear p64
                        try clear c67
                        try clear c67b0
                        try clear c67b1
                        try clear c68
                        try clear c68b0
                        try clear c68b1
                        try clear c69
                        try clear c69b0
                        try clear c69b1
                        try clear c69b2
                        try clear c70
                        try clear c70b0
                        try clear c70b1
                        try clear c70b2
                        try clear c72
                        try clear c73
                        try clear c76
                        try clear c77
                        try clear c77b0
                        try clear c78
                        try clear c78b0
                        try clear c79
                        try clear c79b0
                        try clear c86
                        try clear c86b0
                        try clear c88
                        try clear c88b0
                        try clear c92
                        try clear c92b0
                        try clear c93
                        try clear c93b0
                        try clear c94
                        try clear c94b0
                        try clear c95
                        try clear c95b0
                        try clear c96
                        try clear c96b0
                        try clear c96b1
                        try clear c97
                        try clear c97b0
                        try clear c98
                        try clear c98b0
                        try clear c99
                        try clear c99b0
                        try clear c100
                        try clear c100b0
                        try clear c100b1
                        try clear c103
                        try clear c103b0
                        try clear c103b1
                        try clear c104
                        try clear c104b0
                        try clear c105
                        try clear c105b0
                        try clear c106
                        try clear c106b0
                        try clear c106b1
                        try clear c109
                        try clear c109b0
                        try clear c109b1
                        try clear c110
                        try clear c110b0
                        try clear c112
                        try clear c112b0
                        try clear c112b1
                        try clear c113
                        try clear c113b0
                        try clear c114
                        try clear c114b0
                        try clear c116
                        try clear c121
                        try clear c122
                        try clear c130
                        try clear c130b0
                        try clear c130b1
                        try clear c131
                        try clear c131b0
                        try clear c132
                        try clear c132b0
                        try clear c132b1
                        try clear c133
                        try clear c133b0
                        try clear c133b1
                        try clear c134
                        try clear c134b0
                        try clear c135
                        try clear c137
                        try clear c137b0
                        try clear c137b1
                        try clear c138
                        try clear c138b0
                        try clear c140
                        try clear c140b0
                        try clear hcz123_0
                        try clear hcz123_1
                        try clear hcz123_2
                        try clear hcz123_3
                        try clear hcz35_0
                        try clear hcz35_1
                        try clear hcz35_2
                        try clear hcz35_3
                        try clear hcz42_0
                        try clear hcz42_1
                        try clear hcz42_2
                        try clear hcz42_3
                        try clear hcz49_0
                        try clear hcz49_1
                        try clear hcz49_2
                        try clear hcz49_3
                        try clear hcz65_0
                        try clear hcz65_1
                        try clear hcz65_2
                        try clear hcz65_3
                        try clear hcz74_0
                        try clear hcz74_1
                        try clear hcz74_2
                        try clear hcz74_3
                        try clear hfz123_0
                        try clear hfz123_1
                        try clear hfz123_2
                        try clear hfz123_3
                        try clear hfz35_0
                        try clear hfz35_1
                        try clear hfz35_2
                        try clear hfz35_3
                        try clear hfz42_0
                        try clear hfz42_1
                        try clear hfz42_2
                        try clear hfz42_3
                        try clear hfz49_0
                        try clear hfz49_1
                        try clear hfz49_2
                        try clear hfz49_3
                        try clear hfz65_0
                        try clear hfz65_1
                        try clear hfz65_2
                        try clear hfz65_3
                        try clear hfz74_0
                        try clear hfz74_1
                        try clear hfz74_2
                        try clear hfz74_3
                        try clear hx159_0
                        try clear hx159_1
                        try clear hx159_2
                        try clear hx159_3
                        try clear hx163_0
                        try clear hx163_1
                        try clear hx164_0
                        try clear hx164_1
                        try clear hx165_0
                        try clear hx165_1
                        try clear hx166_0
                        try clear hx166_1
                        try clear hx167_0
                        try clear hx167_1
                        try clear hx168_0
                        try clear hx168_1
                        try clear hx169_0
                        try clear hx169_1
                        try clear hx170_0
                        try clear hx170_1
                        try clear p1
                        try clear p15
                        try clear p159
                        try clear p16
                        try clear p163
                        try clear p164
                        try clear p165
                        try clear p166
                        try clear p167
                        try clear p168
                        try clear p169
                        try clear p17
                        try clear p170
                        try clear p2
                        try clear p6
                        try clear p64
                        try clear q1
                        try clear q15
                        try clear q159
                        try clear q16
                        try clear q163
                        try clear q164
                        try clear q165
                        try clear q166
                        try clear q167
                        try clear q168
                        try clear q169
                        try clear q17
                        try clear q170
                        obtain ⟨kq, x250_138, rfl, HA, HJ138, HO_8, HO_11, HO_13, HO_115000, HO_115001, BK101, BK102, BK114, HB⟩ := hcut
                        cases kq with
                        | zero => exact absurd HA.out (by simp [walkmilllaw05_TenterDry.j8])
                        | succ kj138 =>
                         have H := HA.out
                         clear HA
                         simp only [walkmilllaw05_TenterDry.j8] at H
                         by_cases c141 : x250_138 = true
                         ·
                          subst c141
                          rw [if_pos rfl] at H
                          have H' := Aside0.mk H
                          clear H
                          go_wp2
                          go_roundg kj138
                          case measure => have := HJ15.out; have := HK2.out; have := HJ81.out; have := HJ90.out; have := HJ119.out; have := HJ135.out; have := HK7.out; have := HJ138.out; omega
                          case rel => exact ⟨(wrap64 (x22_7 + 1)), (by first | rfl | (simp; done) | (simp [*]; done)), H', ⟨by have := HJ15.out; have := HK2.out; have := HJ81.out; have := HJ90.out; have := HJ119.out; have := HJ135.out; have := HK7.out; have := HJ138.out; omega⟩, ⟨by (with_reducible repeat (first | apply Kd.R_alloc | apply Kd.R_drewN | apply Kd.R_drew)); exact HO_8.out⟩, ⟨by (with_reducible repeat (first | apply Kd.R_alloc | apply Kd.R_drewN | apply Kd.R_drew)); exact HO_11.out⟩, ⟨by (with_reducible repeat (first | apply Kd.R_alloc | apply Kd.R_drewN | apply Kd.R_drew)); exact HO_13.out⟩, ⟨by (with_reducible repeat (first | apply Kd.R_alloc | apply Kd.R_drewN | apply Kd.R_drew)); exact HO_115000.out⟩, ⟨by (with_reducible repeat (first | apply Kd.R_alloc | apply Kd.R_drewN | apply Kd.R_drew)); exact HO_115001.out⟩, ⟨by (with_reducible repeat (first | refine blk_drewN ?_ _ | refine blk_drew ?_ | refine blk_alloc ?_ _)); exact BK101.out⟩, ⟨by (with_reducible repeat (first | refine blk_drewN ?_ _ | refine blk_drew ?_ | refine blk_alloc ?_ _)); exact BK102.out⟩, ⟨by (with_reducible repeat (first | refine blk_drewN ?_ _ | refine blk_drew ?_ | refine blk_alloc ?_ _)); exact BK114.out⟩, ⟨pE HB⟩⟩
                         ·
                          replace c141 := Bool.eq_false_iff.mpr c141
                          subst c141
                          rw [if_neg (show ¬ (false = true) by decide)] at H
                          obtain ⟨⟨t184, t187, t190, t191⟩, A142, H⟩ := bi H
                          obtain ⟨t192, A143, H⟩ := bi H
                          obtain ⟨⟨t195, t198⟩, A144, H⟩ := bi H
                          by_cases c145 : t198 = 0
                          ·
                           rw [if_pos c145] at H
                           have c145b0 : (t198 == 0) = true := beq_iff_eq.mpr c145
                           have c145b1 : (t198 != 0) = false := bne_eq_false_iff_eq.mpr c145
                           clear c145
                           by_cases c146 : (t195.length : Int) = (t126.length : Int)
                           ·
                            rw [if_pos c146] at H
                            have c146b0 : ((t195.length : Int) == (t126.length : Int)) = true := beq_iff_eq.mpr c146
                            have c146b1 : ((t195.length : Int) != (t126.length : Int)) = false := bne_eq_false_iff_eq.mpr c146
                            have c146b2 : (t195.length == t126.length) = true := by first | simpa using c146 | (simp at c146 ⊢; omega)
                            clear c146
                            by_cases c147 : 0 ≤ x17_2
                            ·
                             rw [if_pos c147] at H
                             have c147b0 : decide (0 ≤ x17_2) = true := decide_eq_true c147
                             clear c147
                             by_cases c148 : x17_2 < (t195.length : Int)
                             ·
                              rw [if_pos c148] at H
                              have c148b0 : decide (x17_2 < (t195.length : Int)) = true := decide_eq_true c148
                              clear c148
                              by_cases c149 : ((decide (((rd_T36 t195 x17_2).f1) ≤ (Int.tmod (wrap64 (a2_1)) (wrap64 ((t111.length : Int) + 1))))) != (x22_7 == 0)) = true
                              ·
                               rw [if_pos c149] at H
                               have c149b0 : ((decide (((rd_T36 t195 x17_2).f1) ≤ (Int.tmod (wrap64 (a2_1)) (wrap64 ((t111.length : Int) + 1))))) != (x22_7 == 0)) = true := c149
                               (try (have c149b1 : decide ((decide (((rd_T36 t195 x17_2).f1) ≤ (Int.tmod (wrap64 (a2_1)) (wrap64 ((t111.length : Int) + 1))))) = (x22_7 == 0)) = false := by simpa using c149))
                               (try (have c149b2 : ((decide (((rd_T36 t195 x17_2).f1) ≤ (Int.tmod (wrap64 (a2_1)) (wrap64 ((t111.length : Int) + 1))))) == (x22_7 == 0)) = false := by simpa using c149))
                               (try (have c149b3 : ¬ ((decide (((rd_T36 t195 x17_2).f1) ≤ (Int.tmod (wrap64 (a2_1)) (wrap64 ((t111.length : Int) + 1))))) = (x22_7 == 0)) := by simpa using c149))
                               clear c149
                               exact absurd ((Option.some.inj H).trans HRT.out) (by simp)
                              ·
                               rw [if_neg c149] at H
                               have c149b0 : ((decide (((rd_T36 t195 x17_2).f1) ≤ (Int.tmod (wrap64 (a2_1)) (wrap64 ((t111.length : Int) + 1))))) != (x22_7 == 0)) = false := by simpa using c149
                               (try (have c149b1 : decide ((decide (((rd_T36 t195 x17_2).f1) ≤ (Int.tmod (wrap64 (a2_1)) (wrap64 ((t111.length : Int) + 1))))) = (x22_7 == 0)) = true := by simpa using c149))
                               (try (have c149b2 : ((decide (((rd_T36 t195 x17_2).f1) ≤ (Int.tmod (wrap64 (a2_1)) (wrap64 ((t111.length : Int) + 1))))) == (x22_7 == 0)) = true := by simpa using c149))
                               clear c149
                               have H' := Aside0.mk H
                               clear H
                               have hnb150 := NB114_101.out
                               have hnc150 := NB101_114.out
                               have hnb151 := NB114_102.out
                               have hnc151 := NB102_114.out
                               obtain ⟨_, _, _, _, _, _, _, _⟩ := cf4 BK114
                               go_wp2_with (first | ((with_reducible refine gc 45 rfl ?_); refine gL 253 Tryz.func45 #[.agg #[.slice (some ad159) t103.length co24, .slice Ao26 t106.length co26, .int .i64 t109, .int .i64 t110]] ?_; (with_reducible refine (walkmilllaw05_own.calls _ _ t103 _ _ t106 t109 t110 t184 t187 t190 t191 _ ?side1 ?side2 ?side3 ?side4 A142.out).mono ?_); (case side1 => exact pC (Kd.R_reads' HO_115000.out).2.2); (case side2 => exact (Kd.R_reads' HO_115000.out).2.1); (case side3 => exact pC (Kd.R_reads' HO_115001.out).2.2); (case side4 => exact (Kd.R_reads' HO_115001.out).2.1); rintro e w153 ⟨v185, v188, rfl, ho0, ho1, hb⟩; refine ⟨_, rfl, ?_⟩; replace HO_8 := rb HO_8 hb; replace HO_11 := rb HO_11 hb; replace HO_13 := rb HO_13 hb; have HO186 := Aside0.mk (Kd.R_lower (Kd.R_new' ho0 (Kd.R_lt (pR HO_115000.out))) (below_size (pE HB))); replace HO_115000 := re HO_115000 ho0 hb; have HO189 := Aside0.mk (Kd.R_lower (Kd.R_new' ho1 (Kd.R_lt (pR HO_115001.out))) (below_size (pE HB))); replace HO_115001 := re HO_115001 ho1 hb; replace BK101 := bb BK101 hb; replace BK102 := bb BK102 hb; replace BK114 := bb BK114 hb; replace HB := bs HB hb; clear hb ho0 ho1) | ((with_reducible refine gc 46 rfl ?_); refine gL 255 Tryz.func46 #[.slice Ao32 t111.length co32] ?_; (with_reducible refine (walkmilllaw05_spans.calls _ _ t111 t192 _ ?side1 ?side2 A143.out).mono ?_); (case side1 => exact pC (Kd.R_reads' HO_8.out).2.2); (case side2 => exact (Kd.R_reads' HO_8.out).2.1); rintro e w154 ⟨v193, rfl, ho0, hb⟩; refine ⟨_, rfl, ?_⟩; replace HO_115000 := rb HO_115000 hb; replace HO_115001 := rb HO_115001 hb; replace HO186 := rb HO186 hb; replace HO189 := rb HO189 hb; have HO194 := Aside0.mk (Kd.R_lower (Kd.R_new' (Kd.R_new' (Kd.R_new' ho0 (Kd.R_lt (pR HO_8.out))) (Kd.R_lt (pR HO_11.out))) (Kd.R_lt (pR HO_13.out))) (below_size (pE HB))); replace HO_8 := re HO_8 ho0 hb; replace HO_11 := re HO_11 ho0 hb; replace HO_13 := re HO_13 ho0 hb; replace BK101 := bb BK101 hb; replace BK102 := bb BK102 hb; replace BK114 := bb BK114 hb; replace HB := bs HB hb; clear hb ho0; obtain ⟨Ao155, co155, eo155⟩ := Kd.R_slice HO186.out; subst eo155; obtain ⟨Ao156, co156, eo156⟩ := Kd.R_slice HO189.out; subst eo156; obtain ⟨Ao157, co157, eo157⟩ := Kd.R_slice HO194.out; subst eo157) | ((with_reducible refine gc 34 rfl ?_); refine gL 259 Tryz.func34 #[.agg #[.slice Ao155 t184.length co155, .slice Ao156 t187.length co156, .int .i64 t190, .int .i64 t191], .slice Ao157 t192.length co157, .int .i64 (wrap64 (x20_135 + x22_7))] ?_; (with_reducible refine (tenter_Dry.calls kj138 _ _ t184 _ _ t187 t190 t191 _ _ t192 (wrap64 (x20_135 + x22_7)) t195 t198 _ ?side1 ?side2 ?side3 ?side4 ?side5 ?side6 A144.out).mono ?_); (case side1 => exact pC (Kd.R_reads' HO186.out).2.2); (case side2 => exact (Kd.R_reads' HO186.out).2.1); (case side3 => exact pC (Kd.R_reads' HO189.out).2.2); (case side4 => exact (Kd.R_reads' HO189.out).2.1); (case side5 => exact pC (Kd.R_reads' HO194.out).2.2); (case side6 => exact (Kd.R_reads' HO194.out).2.1); rintro e w158 ⟨v196, rfl, ho0, hb⟩; refine ⟨_, rfl, ?_⟩; replace HO_115000 := rb HO_115000 hb; replace HO_115001 := rb HO_115001 hb; replace HO186 := rb HO186 hb; replace HO189 := rb HO189 hb; have HO197 := Aside0.mk (Kd.R_lower (Kd.R_new' (Kd.R_new' (Kd.R_new' (Kd.R_new' ho0 (Kd.R_lt (pR HO_8.out))) (Kd.R_lt (pR HO_11.out))) (Kd.R_lt (pR HO_13.out))) (Kd.R_lt (pR HO194.out))) (below_size (pE HB))); replace HO_8 := re HO_8 ho0 hb; replace HO_11 := re HO_11 ho0 hb; replace HO_13 := re HO_13 ho0 hb; replace HO194 := re HO194 ho0 hb; replace BK101 := bb BK101 hb; replace BK102 := bb BK102 hb; replace BK114 := bb BK114 hb; replace HB := bs HB hb; clear hb ho0; obtain ⟨Ao159, co159, eo159⟩ := Kd.R_slice HO197.out; subst eo159; have p199 : 0 ≤ (x17_2 : Int) := dT; have q199 : x17_2 < (t195.length : Int) := dT; obtain ⟨ad199, e199, hx199_0, hx199_1⟩ := at_T36 (Kd.R_reads' HO197.out).2.2 x17_2 p199 q199; cases e199; replace p199 := eq_true p199; replace q199 := eq_true q199))
                               go_roundg kj138
                               case measure => have := HJ15.out; have := HK2.out; have := HJ81.out; have := HJ90.out; have := HJ119.out; have := HJ135.out; have := HK7.out; have := HJ138.out; omega
                               case rel => exact ⟨(wrap64 (x22_7 + 1)), (by first | rfl | (simp; done) | (simp [*]; done)), H', ⟨by have := HJ15.out; have := HK2.out; have := HJ81.out; have := HJ90.out; have := HJ119.out; have := HJ135.out; have := HK7.out; have := HJ138.out; omega⟩, ⟨by (with_reducible repeat (first | apply Kd.R_alloc | apply Kd.R_drewN | apply Kd.R_drew)); exact Kd.R_mono HO_8.out (fun _ hk => ⟨hk.1.1.1, hk.1.1.2⟩)⟩, ⟨by (with_reducible repeat (first | apply Kd.R_alloc | apply Kd.R_drewN | apply Kd.R_drew)); exact Kd.R_mono HO_11.out (fun _ hk => ⟨hk.1.1.1, hk.1.1.2⟩)⟩, ⟨by (with_reducible repeat (first | apply Kd.R_alloc | apply Kd.R_drewN | apply Kd.R_drew)); exact Kd.R_mono HO_13.out (fun _ hk => ⟨hk.1.1.1, hk.1.1.2⟩)⟩, ⟨by (with_reducible repeat (first | apply Kd.R_alloc | apply Kd.R_drewN | apply Kd.R_drew)); exact Kd.R_mono HO_115000.out (fun _ hk => trivial)⟩, ⟨by (with_reducible repeat (first | apply Kd.R_alloc | apply Kd.R_drewN | apply Kd.R_drew)); exact Kd.R_mono HO_115001.out (fun _ hk => trivial)⟩, ⟨by (with_reducible repeat (first | refine blk_drewN ?_ _ | refine blk_drew ?_ | refine blk_alloc ?_ _)); exact BK101.out⟩, ⟨by (with_reducible repeat (first | refine blk_drewN ?_ _ | refine blk_drew ?_ | refine blk_alloc ?_ _)); exact BK102.out⟩, ⟨by (with_reducible repeat (first | refine blk_drewN ?_ _ | refine blk_drew ?_ | refine blk_alloc ?_ _)); exact BK114.out⟩, ⟨pE HB⟩⟩
                             ·
                              rw [if_neg c148] at H
                              exact absurd H (by simp)
                            ·
                             rw [if_neg c147] at H
                             exact absurd H (by simp)
                           ·
                            rw [if_neg c146] at H
                            have c146b0 : ((t195.length : Int) == (t126.length : Int)) = false := beq_eq_false_iff_ne.mpr c146
                            have c146b1 : ((t195.length : Int) != (t126.length : Int)) = true := bne_iff_ne.mpr c146
                            have c146b2 : (t195.length == t126.length) = false := by first | simpa using c146 | (simp at c146 ⊢; omega)
                            exact absurd ((Option.some.inj H).trans HRT.out) (by simp)
                          ·
                           rw [if_neg c145] at H
                           have c145b0 : (t198 == 0) = false := beq_eq_false_iff_ne.mpr c145
                           have c145b1 : (t198 != 0) = true := bne_iff_ne.mpr c145
                           exact absurd ((Option.some.inj H).trans HRT.out) (by simp)
                      ·
                       rw [if_neg c138] at H
                       have c138b0 : decide (x22_7 < 2) = false := decide_eq_false c138
                       clear c138
                       have H' := Aside0.mk H
                       clear H
                       go_wp2
                       go_roundg k7
                       case measure => have := HJ15.out; have := HK2.out; have := HJ81.out; have := HJ90.out; have := HJ119.out; have := HJ135.out; have := HK7.out; omega
                       case rel => exact ⟨(wrap64 (x17_2 + 1)), (by first | rfl | (simp; done) | (simp [*]; done)), H', ⟨by have := HJ15.out; have := HK2.out; have := HJ81.out; have := HJ90.out; have := HJ119.out; have := HJ135.out; have := HK7.out; omega⟩, ⟨by (with_reducible repeat (first | apply Kd.R_alloc | apply Kd.R_drewN | apply Kd.R_drew)); exact HO_8.out⟩, ⟨by (with_reducible repeat (first | apply Kd.R_alloc | apply Kd.R_drewN | apply Kd.R_drew)); exact HO_11.out⟩, ⟨by (with_reducible repeat (first | apply Kd.R_alloc | apply Kd.R_drewN | apply Kd.R_drew)); exact HO_13.out⟩, ⟨by (with_reducible repeat (first | apply Kd.R_alloc | apply Kd.R_drewN | apply Kd.R_drew)); exact HO_115000.out⟩, ⟨by (with_reducible repeat (first | apply Kd.R_alloc | apply Kd.R_drewN | apply Kd.R_drew)); exact HO_115001.out⟩, ⟨by (with_reducible repeat (first | refine blk_drewN ?_ _ | refine blk_drew ?_ | refine blk_alloc ?_ _)); exact BK101.out⟩, ⟨by (with_reducible repeat (first | refine blk_drewN ?_ _ | refine blk_drew ?_ | refine blk_alloc ?_ _)); exact BK102.out⟩, ⟨by (with_reducible repeat (first | refine blk_drewN ?_ _ | refine blk_drew ?_ | refine blk_alloc ?_ _)); exact BK114.out⟩, ⟨pE HB⟩⟩
         ·
          rw [if_neg c79] at H
          exact absurd H (by simp)
        ·
         rw [if_neg c78] at H
         exact absurd H (by simp)
       ·
        rw [if_neg c77] at H
        have c77b0 : decide (x17_2 < (t126.length : Int)) = false := decide_eq_false c77
        clear c77
        obtain ⟨t158, A160, H⟩ := bi H
        obtain rfl := Option.some.inj H
        obtain ⟨Ao161, co161, eo161⟩ := Kd.R_slice HO_11.out
        subst eo161
        go_wp2_with (first | ((with_reducible refine gc 13 rfl ?_); refine gL 283 Tryz.func13 #[] ?_; (with_reducible refine (walkmilllaw05_known.calls t158 _ A160.out (LaidT.below HLd.out (pE HB))).mono ?_); rintro e w162 ⟨rfl, hb⟩; refine ⟨_, rfl, ?_⟩; replace HO_8 := rb HO_8 hb; replace HO_11 := rb HO_11 hb; replace HO_13 := rb HO_13 hb; replace HO_115000 := rb HO_115000 hb; replace HO_115001 := rb HO_115001 hb; replace BK101 := bb BK101 hb; replace BK102 := bb BK102 hb; replace BK114 := bb BK114 hb; replace HB := bs HB hb; clear hb))
        go_ret
        exact ⟨eT, pE HB⟩
end Go.Proofs.YtikmfpjcdcckeaaGreatDoor.P
