/- Part 6 of what the law's proof needs beyond its base: words, walks of functions and plain facts. -/
import Derived.Test.YtjaapkkpmegkfaaGreatG05
set_option linter.unusedVariables false
set_option linter.unusedSimpArgs false
namespace Go.Proofs.YtjaapkkpmegkfaaGreat.P
open Go.RowKit Go.Proofs.YtjaapkkpmegkfaaGreatW.PrintWords Go.Proofs.YtjaapkkpmegkfaaGreatW.PrintLast Go.Proofs.YtjaapkkpmegkfaaGreatW.PrintMore
attribute [local go_sem] JG JH JY JX Jv Ju JJ JK
attribute [local go_sem high] eqA24
mutual
def Qao.j0 : Nat → List Int → List S100 → List Int → Bool → Bool → Bool → Bool → Int → Int → Int → Int → Int → Int → Int → Int → Int → Option Bool
 | 0, _, _, _, _, _, _, _, _, _, _, _, _, _, _, _, _ => none
 | k + 1, x2, x7, x9, x12, x13, x14, x86, x111000, x111001, x111002, x111003, x111004, x118000, x118001, x138000, x138001 => if x86 = true then (some false) else ((Qay.f x2 0).bind fun t138 => ((Qaz.f x111000 x111001 t138).bind fun t139 => ((Qay.f x2 1).bind fun t140 => ((Qaz.f x111002 x111003 t140).bind fun t141 => (Qao.l0 k x2 x7 x9 x12 x13 x14 (wrap64 (Int.tdiv (wrap64 ((wrap64 (t139 * t141)) + 999)) 1000)) 0 0 x111000 x111001 x111002 x111003 x111004 x118000 x118001 x138000 x138001 0 0)))))
def Qao.l0 : Nat → List Int → List S100 → List Int → Bool → Bool → Bool → Int → Int → Int → Int → Int → Int → Int → Int → Int → Int → Int → Int → Int → Int → Option Bool
 | 0, _, _, _, _, _, _, _, _, _, _, _, _, _, _, _, _, _, _, _, _ => none
 | k + 1, x2, x7, x9, x12, x13, x14, x20, x21, x23, x111000, x111001, x111002, x111003, x111004, x118000, x118001, x138000, x138001, x143000, x143001 => if x23 < (x7.length : Int) then (if 0 ≤ x23 then (if x23 < (x9.length : Int) then ((Qay.f x2 (wrap64 (2 + x23))).bind fun t145 => ((Qaz.f ((Qf x7 x23).f0.f0) ((Qf x7 x23).f0.f1) t145).bind fun t146 => (Qao.l0 k x2 x7 x9 x12 x13 x14 x20 (wrap64 (x21 + (wrap64 ((rd x9 x23) * t146)))) (wrap64 (x23 + 1)) x111000 x111001 x111002 x111003 x111004 x118000 x118001 x138000 x138001 (wrap64 (x143000 + (wrap64 ((rd x9 x23) * ((Qf x7 x23).f0.f0))))) (wrap64 (x143001 + (wrap64 ((rd x9 x23) * ((Qf x7 x23).f0.f1)))))))) else (none)) else (none)) else (if x20 < x118000 then (Qao.j2 k x7 x9 x14 true x111000 x111001 x111002 x111003 x111004 x138000 x138001) else (if x20 > x118001 then (Qao.j2 k x7 x9 x14 true x111000 x111001 x111002 x111003 x111004 x138000 x138001) else (if (wrap64 (x21 - x20)) < x138000 then (Qao.j2 k x7 x9 x14 true x111000 x111001 x111002 x111003 x111004 x138000 x138001) else (if (wrap64 (x21 - x20)) > x138001 then (Qao.j2 k x7 x9 x14 true x111000 x111001 x111002 x111003 x111004 x138000 x138001) else (if x12 = true then (if x21 < x20 then (Qao.j2 k x7 x9 x14 true x111000 x111001 x111002 x111003 x111004 x138000 x138001) else (if x21 ≥ x20 then (if x13 = true then ((QC.f (wrap64 (x143000 - x118001)) (wrap64 (x143001 - x118000))).bind fun bt151 => (Qao.j2 k x7 x9 x14 (!(x138000 == bt151.1) || (!(x138001 == bt151.2))) x111000 x111001 x111002 x111003 x111004 x138000 x138001)) else (Qao.j2 k x7 x9 x14 true x111000 x111001 x111002 x111003 x111004 x138000 x138001)) else ((QC.f (wrap64 (x143000 - x118001)) (wrap64 (x143001 - x118000))).bind fun bt153 => (Qao.j2 k x7 x9 x14 (!(x138000 == bt153.1) || (!(x138001 == bt153.2))) x111000 x111001 x111002 x111003 x111004 x138000 x138001)))) else (if x21 ≥ x20 then (if x13 = true then ((QC.f (wrap64 (x143000 - x118001)) (wrap64 (x143001 - x118000))).bind fun bt155 => (Qao.j2 k x7 x9 x14 (!(x138000 == bt155.1) || (!(x138001 == bt155.2))) x111000 x111001 x111002 x111003 x111004 x138000 x138001)) else (Qao.j2 k x7 x9 x14 true x111000 x111001 x111002 x111003 x111004 x138000 x138001)) else ((QC.f (wrap64 (x143000 - x118001)) (wrap64 (x143001 - x118000))).bind fun bt157 => (Qao.j2 k x7 x9 x14 (!(x138000 == bt157.1) || (!(x138001 == bt157.2))) x111000 x111001 x111002 x111003 x111004 x138000 x138001))))))))
def Qao.j2 : Nat → List S100 → List Int → Bool → Bool → Int → Int → Int → Int → Int → Int → Int → Option Bool
 | 0, _, _, _, _, _, _, _, _, _, _, _ => none
 | k + 1, x7, x9, x14, x212, x111000, x111001, x111002, x111003, x111004, x138000, x138001 => if x212 = true then (some false) else ((Qau.f k x7 x9).bind fun bt159 => (if (x14 != (decide (bt159.2 > x111004))) = true then (some false) else (Qao.l1 k x7 x9 0 x111000 x111001 x111002 x111003 x111004 x138000 x138001)))
def Qao.l1 : Nat → List S100 → List Int → Int → Int → Int → Int → Int → Int → Int → Int → Option Bool
 | 0, _, _, _, _, _, _, _, _, _, _ => none
 | k + 1, x7, x9, x26, x111000, x111001, x111002, x111003, x111004, x138000, x138001 => if x26 < (x7.length : Int) then ((Qav.f x9).bind fun t162 => (if 0 ≤ x26 then (if x26 < (t162.length : Int) then (if (rd t162 x26) < ((Qf x7 x26).f3) then ((Qaw.f x7).bind fun t169 => ((JE.f k t169 x111000 x111001 x111002 x111003 x111004 (t162.set (x26 : Int).toNat (wrap64 ((rd t162 x26) + 1)))).bind fun bt172 => (if bt172.2.2 = 0 then (if bt172.1 < x138000 then (some false) else (if bt172.2.1 < x138001 then (some false) else (Qao.l1 k x7 x9 (wrap64 (x26 + 1)) x111000 x111001 x111002 x111003 x111004 x138000 x138001))) else (some false)))) else (Qao.l1 k x7 x9 (wrap64 (x26 + 1)) x111000 x111001 x111002 x111003 x111004 x138000 x138001)) else (none)) else (none))) else ((Qd.f k).bind fun t161 => (some t161))
end
def Qao.f (k : Nat) (l0_0 : List S89) (a0_1 a0_2 a0_3 a0_4 a0_5 : Int) (l1 l2 : List Int) : Option Bool := (Qaq.f k l0_0 a0_1 a0_2 a0_3 a0_4 a0_5).bind fun bt102 => ((Qar.f k bt102.1 l1).bind fun t111 => ((Zl.f bt102.2.1 bt102.2.2.1 bt102.2.2.2.1 bt102.2.2.2.2.1 bt102.2.2.2.2.2).bind fun bt114 => ((Qaw.f bt102.1).bind fun t118 => ((Qav.f t111).bind fun t121 => ((Q0.f k t118 bt102.2.1 bt102.2.2.1 bt102.2.2.2.1 bt102.2.2.2.2.1 bt102.2.2.2.2.2 t121).bind fun bt124 => ((Qaw.f bt102.1).bind fun t128 => ((Qav.f t111).bind fun t131 => ((JE.f k t128 bt102.2.1 bt102.2.2.1 bt102.2.2.2.1 bt102.2.2.2.2.1 bt102.2.2.2.2.2 t131).bind fun bt134 => (if bt114.2.2 = 0 then (if bt124.2.2.2 = 0 then (if bt134.2.2 = 0 then (if (bt124.1 != (decide (bt134.1 ≥ 0))) = true then (Qao.j0 k l2 bt102.1 t111 bt124.1 bt124.2.1 bt124.2.2.1 true bt102.2.1 bt102.2.2.1 bt102.2.2.2.1 bt102.2.2.2.2.1 bt102.2.2.2.2.2 bt114.1 bt114.2.1 bt134.1 bt134.2.1) else (Qao.j0 k l2 bt102.1 t111 bt124.1 bt124.2.1 bt124.2.2.1 (bt124.2.1 != (decide (bt134.2.1 ≥ 0))) bt102.2.1 bt102.2.2.1 bt102.2.2.2.1 bt102.2.2.2.2.1 bt102.2.2.2.2.2 bt114.1 bt114.2.1 bt134.1 bt134.2.1)) else (Qao.j0 k l2 bt102.1 t111 bt124.1 bt124.2.1 bt124.2.2.1 true bt102.2.1 bt102.2.2.1 bt102.2.2.2.1 bt102.2.2.2.2.1 bt102.2.2.2.2.2 bt114.1 bt114.2.1 bt134.1 bt134.2.1)) else (Qao.j0 k l2 bt102.1 t111 bt124.1 bt124.2.1 bt124.2.2.1 true bt102.2.1 bt102.2.2.1 bt102.2.2.2.1 bt102.2.2.2.2.1 bt102.2.2.2.2.2 bt114.1 bt114.2.1 bt134.1 bt134.2.1)) else (Qao.j0 k l2 bt102.1 t111 bt124.1 bt124.2.1 bt124.2.2.1 true bt102.2.1 bt102.2.2.1 bt102.2.2.2.1 bt102.2.2.2.2.1 bt102.2.2.2.2.2 bt114.1 bt114.2.1 bt134.1 bt134.2.1))))))))))
theorem Qao.dead_j0 : ∀ k y0 y1 y2 y3 y4 y5 y7 y8 y9 y10 y11 y12 y13 y14 y15 r, Qao.j0 k y0 y1 y2 y3 y4 y5 true y7 y8 y9 y10 y11 y12 y13 y14 y15 = some r → r = true → False := by
 intro k y0 y1 y2 y3 y4 y5 y7 y8 y9 y10 y11 y12 y13 y14 y15 r h hr
 cases k with
 | zero => simp [Qao.j0] at h
 | succ k => exact absurd ((Option.some.inj (show (some false : Option Bool) = some r from h)).trans hr) (by simp)
theorem Qao.dead_j2 : ∀ k y0 y1 y2 y4 y5 y6 y7 y8 y9 y10 r, Qao.j2 k y0 y1 y2 true y4 y5 y6 y7 y8 y9 y10 = some r → r = true → False := by
 intro k y0 y1 y2 y4 y5 y6 y7 y8 y9 y10 r h hr
 cases k with
 | zero => simp [Qao.j2] at h
 | succ k => exact absurd ((Option.some.inj (show (some false : Option Bool) = some r from h)).trans hr) (by simp)
def Qao.T4 : Bool × List (List Nat × List Nat) := (true, [([], []), ([0], [0]), ([], []), ([], []), ([3, 1], [3]), ([1, 2, 4, 4], [1, 2, 4]), ([5], [5]), ([6], [6]), ([6], [6]), ([6], [6]), ([6], [6]), ([7, 5, 0, 1, 2, 3, 4, 5, 6, 7], [7]), ([8, 11, 0, 1, 2, 3, 4, 5, 6, 7, 8, 11], [8]), ([9, 12, 0, 1, 2, 3, 4, 5, 6, 7, 8, 9, 11, 12], [9]), ([10, 13, 0, 1, 2, 3, 4, 5, 6, 7, 8, 9, 10, 11, 12, 13], [10])])
def Qao.B4 : List Nat := [0, 1, 0, 0, 11, 31, 63, 127, 127, 127, 127, 255, 2559, 7167, 16383]
theorem Qao.tab4 : rtab .any (ZG Tryz.f10 4) = Qao.T4 := by kernel_rfl
theorem Qao.bits4 : J0 Qao.T4.2 Qao.B4 = true := by kernel_rfl
def Qao.T5 : Bool × List (List Nat × List Nat) := (true, [([], []), ([0], [0]), ([], []), ([], []), ([3, 1], [3]), ([1, 2, 4, 4], [1, 2, 4]), ([5], [5]), ([6], [6]), ([6], [6]), ([], []), ([9, 7, 5, 0, 1, 2, 3, 4, 5, 6, 7, 9], [7, 9]), ([8, 10, 0, 1, 2, 3, 4, 5, 6, 7, 8, 9, 10], [8])])
def Qao.B5 : List Nat := [0, 1, 0, 0, 11, 31, 63, 127, 127, 0, 767, 2047]
theorem Qao.tab5 : rtab .any (ZG Tryz.f10 5) = Qao.T5 := by kernel_rfl
theorem Qao.bits5 : J0 Qao.T5.2 Qao.B5 = true := by kernel_rfl
def Qao.T8 : Bool × List (List Nat × List Nat) := (true, [([], []), ([0], [0]), ([], []), ([2], [2]), ([1, 3, 3], [1, 3]), ([], []), ([5], [5]), ([], []), ([7, 4], [7]), ([6, 8, 8], [6, 8]), ([4, 9, 0, 1, 2, 3, 4], [4]), ([9, 10, 0, 1, 2, 3, 4, 5, 6, 7, 8, 9, 10], [9])])
def Qao.B8 : List Nat := [0, 1, 0, 4, 15, 0, 32, 0, 159, 511, 1023, 2047]
theorem Qao.tab8 : rtab .any (ZG Tryz.f10 8) = Qao.T8 := by kernel_rfl
theorem Qao.bits8 : J0 Qao.T8.2 Qao.B8 = true := by kernel_rfl
def Qao.T14 : Bool × List (List Nat × List Nat) := (true, [([], []), ([], []), ([], []), ([1, 2], [1, 2]), ([3], [3]), ([], []), ([], []), ([5, 6], [5, 6]), ([7], [7]), ([8], [8]), ([], []), ([], []), ([11], [11]), ([10, 12], [10, 12]), ([9, 13, 13], [9, 13]), ([4, 14], [4, 14]), ([0, 15], [0, 15]), ([16, 14, 0, 1, 2, 3, 4, 5, 6, 7, 8, 9, 10, 11, 12, 13, 14, 15, 16], [0, 16])])
def Qao.B14 : List Nat := [0, 0, 0, 6, 14, 0, 0, 96, 224, 480, 0, 0, 2048, 7168, 16352, 32766, 65535, 131071]
theorem Qao.tab14 : rtab .any (ZG Tryz.f10 14) = Qao.T14 := by kernel_rfl
theorem Qao.bits14 : J0 Qao.T14.2 Qao.B14 = true := by kernel_rfl
def Qao.T15 : Bool × List (List Nat × List Nat) := (true, [([], []), ([0], [0]), ([], []), ([], []), ([2, 3], [2, 3]), ([4], [4]), ([], []), ([], []), ([6, 7], [6, 7]), ([8], [8]), ([9], [9]), ([10], [10]), ([5, 11], [5, 11]), ([1, 12], [1, 12]), ([], []), ([14], [14]), ([], []), ([], []), ([16, 17], [16, 17]), ([18], [18]), ([], []), ([], []), ([20, 21], [20, 21]), ([22], [22]), ([23], [23]), ([24], [24]), ([19, 25], [19, 25]), ([15, 26], [15, 26]), ([13, 27], [13, 27]), ([28, 0, 1, 2, 3, 4, 5, 6, 7, 8, 9, 10, 11, 12, 13, 14, 15, 16, 17, 18, 19, 20, 21, 22, 23, 24, 25, 26, 27, 28], [28])])
def Qao.B15 : List Nat := [0, 1, 0, 0, 12, 28, 0, 0, 192, 448, 960, 1984, 4092, 8191, 0, 16384, 0, 0, 196608, 458752, 0, 0, 3145728, 7340032, 15728640, 32505856, 67043328, 134201344, 268435455, 536870911]
theorem Qao.tab15 : rtab .any (ZG Tryz.f10 15) = Qao.T15 := by kernel_rfl
theorem Qao.bits15 : J0 Qao.T15.2 Qao.B15 = true := by kernel_rfl
def Qao.T16 : Bool × List (List Nat × List Nat) := (true, [([], []), ([], []), ([1], [1]), ([0, 2], [0, 2]), ([3], [3]), ([4], [4]), ([4], [4]), ([6, 4], [4, 6]), ([5, 7, 4], [4, 5, 7]), ([4, 8], [4, 8]), ([9, 4], [9]), ([10], [10]), ([10], [10]), ([11, 12, 10], [10, 11, 12]), ([10], [10]), ([14, 10], [10, 14]), ([13, 15, 10], [10, 13, 15]), ([10, 16], [10, 16]), ([17, 10], [17]), ([18], [18]), ([18], [18]), ([19, 20, 18], [18, 19, 20]), ([18], [18]), ([22, 18], [18, 22]), ([21, 23, 18], [18, 21, 23]), ([18, 24], [18, 24]), ([25, 18], [25]), ([26], [26]), ([27, 26, 26], [26, 27]), ([28], [28]), ([28], [28]), ([29, 30, 28], [28, 29, 30]), ([28, 31, 26], [26, 28, 31]), ([26, 32], [26, 32]), ([33, 28], [33]), ([34], [34]), ([34], [34]), ([35, 36, 34], [34, 35, 36]), ([37, 34, 34], [34, 37]), ([38], [38]), ([39, 38], [38, 39]), ([38, 40, 34], [34, 38, 40]), ([34, 41], [34, 41]), ([42, 38], [42]), ([43], [43]), ([43], [43]), ([45, 43], [43, 45]), ([43], [43]), ([47, 43], [43, 47]), ([46, 48, 43], [43, 46, 48]), ([43], [43]), ([50, 43], [43, 50]), ([43], [43]), ([52, 43], [43, 52]), ([51, 53, 43], [43, 51, 53]), ([49, 54, 43, 43], [43, 49, 54]), ([44, 55, 43], [43, 44, 55]), ([43, 56], [43, 56])])
def Qao.B16 : List Nat := [0, 0, 2, 7, 15, 31, 31, 95, 255, 511, 1023, 2047, 2047, 8191, 2047, 18431, 65535, 131071, 262143, 524287, 524287, 2097151, 524287, 4718591, 16777215, 33554431, 67108863, 134217727, 268435455, 536870911, 536870911, 2147483647, 4294967295, 8589934591, 17179869183, 34359738367, 34359738367, 137438953471, 274877906943, 549755813887, 1099511627775, 2199023255551, 4398046511103, 8796093022207, 17592186044415, 17592186044415, 52776558133247, 17592186044415, 158329674399743, 545357767376895, 17592186044415, 1143492092887039, 17592186044415, 4521191813414911, 16906090788683775, 36011204832919551, 72057594037927935, 144115188075855871]
theorem Qao.tab16 : rtab .any (ZG Tryz.f10 16) = Qao.T16 := by kernel_rfl
theorem Qao.bits16 : J0 Qao.T16.2 Qao.B16 = true := by kernel_rfl
def Qao.T25 : Bool × List (List Nat × List Nat) := (true, [([], []), ([], []), ([0, 1], [0, 1]), ([2], [2]), ([], []), ([], []), ([4, 5], [4, 5]), ([6], [6]), ([7], [7]), ([3, 8], [3, 8])])
def Qao.B25 : List Nat := [0, 0, 3, 7, 0, 0, 48, 112, 240, 511]
theorem Qao.tab25 : rtab .any (ZG Tryz.f10 25) = Qao.T25 := by kernel_rfl
theorem Qao.bits25 : J0 Qao.T25.2 Qao.B25 = true := by kernel_rfl
def Qao.T27 : Bool × List (List Nat × List Nat) := (true, [([], []), ([0], [0]), ([], []), ([], []), ([1, 2, 3, 1], [1, 2, 3]), ([4], [4]), ([5], [5]), ([5], [5]), ([], []), ([8, 6, 4, 0, 1, 2, 3, 4, 5, 6, 8], [6, 8]), ([7, 9, 0, 1, 2, 3, 4, 5, 6, 7, 8, 9], [7])])
def Qao.B27 : List Nat := [0, 1, 0, 0, 15, 31, 63, 63, 0, 383, 1023]
theorem Qao.tab27 : rtab .any (ZG Tryz.f10 27) = Qao.T27 := by kernel_rfl
theorem Qao.bits27 : J0 Qao.T27.2 Qao.B27 = true := by kernel_rfl
set_option maxHeartbeats 8000000 in
set_option maxRecDepth 100000 in
theorem Qao.calls_true (k : Nat) (A0_0 : Option Addr) (c0_0 : Nat) (l0_0 : List S89) (a0_1 a0_2 a0_3 a0_4 a0_5 : Int) (A1 : Option Addr) (c1 : Nat) (l1 : List Int) (A2 : Option Addr) (c2 : Nat) (l2 : List Int) (r : Bool) (w : World) (hr0_0 : Kd.C k89 w A0_0 l0_0.length l0_0) (hc0_0 : l0_0.length ≤ c0_0) (hr1 : Kd.C (Kd.int .u8) w A1 l1.length l1) (hc1 : l1.length ≤ c1) (hr2 : Kd.C (Kd.int .u8) w A2 l2.length l2) (hc2 : l2.length ≤ c2) (hrt : r = true) (h : Qao.f k l0_0 a0_1 a0_2 a0_3 a0_4 a0_5 l1 l2 = some r) :
  Calls Tryz.prog 10 #[.agg #[.slice A0_0 l0_0.length c0_0, .int .u8 a0_1, .int .u8 a0_2, .int .u8 a0_3, .int .u8 a0_4, .int .u8 a0_5], .slice A1 l1.length c1, .slice A2 l2.length c2] w fun e w' => e = .returned (.bool r) ∧ Below w.heap.size w w' := by
 have hu91 := Tryz.underlying91; have hu26 := Tryz.underlying26; have hu24 := Tryz.underlying24; have hu98 := Tryz.underlying98; have HRT := Qa.mk hrt; clear hrt; have HR0_0 := Qa.mk hr0_0; have HC0_0 := Qa.mk hc0_0; clear hr0_0 hc0_0; have HR1 := Qa.mk hr1; have HC1 := Qa.mk hc1; clear hr1 hc1; have HR2 := Qa.mk hr2; have HC2 := Qa.mk hc2; clear hr2 hc2; have HB := Qa.mk (Below.refl w.heap.size w); have H : ((Qaq.f k l0_0 a0_1 a0_2 a0_3 a0_4 a0_5).bind fun bt102 => ((Qar.f k bt102.1 l1).bind fun t111 => ((Zl.f bt102.2.1 bt102.2.2.1 bt102.2.2.2.1 bt102.2.2.2.2.1 bt102.2.2.2.2.2).bind fun bt114 => ((Qaw.f bt102.1).bind fun t118 => ((Qav.f t111).bind fun t121 => ((Q0.f k t118 bt102.2.1 bt102.2.2.1 bt102.2.2.2.1 bt102.2.2.2.2.1 bt102.2.2.2.2.2 t121).bind fun bt124 => ((Qaw.f bt102.1).bind fun t128 => ((Qav.f t111).bind fun t131 => ((JE.f k t128 bt102.2.1 bt102.2.2.1 bt102.2.2.2.1 bt102.2.2.2.2.1 bt102.2.2.2.2.2 t131).bind fun bt134 => (if bt114.2.2 = 0 then (if bt124.2.2.2 = 0 then (if bt134.2.2 = 0 then (if (bt124.1 != (decide (bt134.1 ≥ 0))) = true then (Qao.j0 k l2 bt102.1 t111 bt124.1 bt124.2.1 bt124.2.2.1 true bt102.2.1 bt102.2.2.1 bt102.2.2.2.1 bt102.2.2.2.2.1 bt102.2.2.2.2.2 bt114.1 bt114.2.1 bt134.1 bt134.2.1) else (Qao.j0 k l2 bt102.1 t111 bt124.1 bt124.2.1 bt124.2.2.1 (bt124.2.1 != (decide (bt134.2.1 ≥ 0))) bt102.2.1 bt102.2.2.1 bt102.2.2.2.1 bt102.2.2.2.2.1 bt102.2.2.2.2.2 bt114.1 bt114.2.1 bt134.1 bt134.2.1)) else (Qao.j0 k l2 bt102.1 t111 bt124.1 bt124.2.1 bt124.2.2.1 true bt102.2.1 bt102.2.2.1 bt102.2.2.2.1 bt102.2.2.2.2.1 bt102.2.2.2.2.2 bt114.1 bt114.2.1 bt134.1 bt134.2.1)) else (Qao.j0 k l2 bt102.1 t111 bt124.1 bt124.2.1 bt124.2.2.1 true bt102.2.1 bt102.2.2.1 bt102.2.2.2.1 bt102.2.2.2.2.1 bt102.2.2.2.2.2 bt114.1 bt114.2.1 bt134.1 bt134.2.1)) else (Qao.j0 k l2 bt102.1 t111 bt124.1 bt124.2.1 bt124.2.2.1 true bt102.2.1 bt102.2.2.1 bt102.2.2.2.1 bt102.2.2.2.2.1 bt102.2.2.2.2.2 bt114.1 bt114.2.1 bt134.1 bt134.2.1))))))))))) = some r := h; clear h; obtain ⟨⟨t102, t105, t106, t107, t108, t109⟩, A4, H⟩ := bi H; obtain ⟨t111, A5, H⟩ := bi H; obtain ⟨⟨t114, t115, t116⟩, A6, H⟩ := bi H; obtain ⟨t118, A7, H⟩ := bi H; obtain ⟨t121, A8, H⟩ := bi H; obtain ⟨⟨t124, t125, t126, t127⟩, A9, H⟩ := bi H; obtain ⟨t128, A10, H⟩ := bi H; obtain ⟨t131, A11, H⟩ := bi H; obtain ⟨⟨t134, t135, t136⟩, A12, H⟩ := bi H; have HC13 := Qa.mk H; clear H; go_enter Tryz.func10, Tryz.ntmps10
 try go_wp2_with (first | (refine bx 3 #[.slice A0_0 l0_0.length c0_0, .int .u8 a0_1, .int .u8 a0_2, .int .u8 a0_3, .int .u8 a0_4, .int .u8 a0_5] 91 ?_; intro gb101 hg w14 BK101 hb; have GW101 := gs HB hg; replace HB := bs HB hb; clear hb hg; obtain ⟨_, _, _, _, _, _, _, _, _, _, _, _⟩ := cf6 BK101) | ((with_reducible refine gc 52 rfl ?_); refine gL 32 Tryz.func52 #[.agg #[.slice A0_0 l0_0.length c0_0, .int .u8 a0_1, .int .u8 a0_2, .int .u8 a0_3, .int .u8 a0_4, .int .u8 a0_5]] ?_; (with_reducible refine (Qaq.calls k _ _ l0_0 a0_1 a0_2 a0_3 a0_4 a0_5 t102 t105 t106 t107 t108 t109 _ ?side1 ?side2 A4.out).mono ?_); (case side1 => exact pC (Kd.C_below HR0_0.out HB.out)); (case side2 => exact HC0_0.out); rintro e w16 ⟨v103, rfl, ho0, hb⟩; refine ⟨_, rfl, ?_⟩; have HO104 := rl ho0 HB; replace BK101 := bb BK101 hb; replace HB := bs HB hb; clear hb ho0) | (refine bx 8 #[.int .i64 0, .int .i64 0, .int .i64 0, .int .i64 0, .int .i64 0] 26 ?_; intro gb110 hg w17 hbox hb; replace HO104 := rb HO104 hb; have BK110 := hbox; have GW110 := gs HB hg; replace HB := bs HB hb; have NB101_110 := nl BK101 hg; have NB110_101 := nr BK101 hg; replace BK101 := bb BK101 hb; clear hb hg; have hnb18 := NB110_101.out; have hnc18 := NB101_110.out; obtain ⟨_, _, _, _, _, _, _, _, _, _⟩ := cf5 BK110; obtain ⟨Ao20, co20, eo20⟩ := Kd.R_slice HO104.out; subst eo20) | ((with_reducible refine gc 53 rfl ?_); refine gL 37 Tryz.func53 #[.slice Ao20 t102.length co20, .slice A1 l1.length c1] ?_; (with_reducible refine (Qar.calls k _ _ t102 _ _ l1 t111 _ ?side1 ?side2 ?side3 ?side4 A5.out).mono ?_); (case side1 => refine (Kd.R_reads' (e := 100) (base := w.heap.size) (ok := fun k_ => True) (n := t102.length) (c := co20) ?_).2.2; exact (by refine pR ?_; exact (Rt5 (g := gb110) HO104 BK110))); (case side2 => exact (Kd.R_reads' HO104.out).2.1); (case side3 => exact Kd.C_below HR1.out (pE HB)); (case side4 => exact HC1.out); rintro e w21 ⟨v112, rfl, ho0, hb⟩; refine ⟨_, rfl, ?_⟩; replace HO104 := Qa.mk (Kd.R_below (by refine pR ?_; exact (Rt5 (g := gb110) HO104 BK110)) hb); have HO113 := rl ho0 HB; replace BK101 := bf BK101 hb; replace BK110 := Qa.mk (QX (g := gb110) (o := .cells #[.int .i64 t105, .int .i64 t106, .int .i64 t107, .int .i64 t108, .int .i64 t109] 26 (0, 0)) (by refine pB ?_; refine Qg (cs := #[.int .i64 t105, .int .i64 t106, .int .i64 t107, .int .i64 t108, .int .i64 0]) ?_ 4 _ rfl; refine pB ?_; refine Qg (cs := #[.int .i64 t105, .int .i64 t106, .int .i64 t107, .int .i64 0, .int .i64 0]) ?_ 3 _ rfl; refine pB ?_; refine Qg (cs := #[.int .i64 t105, .int .i64 t106, .int .i64 0, .int .i64 0, .int .i64 0]) ?_ 2 _ rfl; refine pB ?_; refine Qg (cs := #[.int .i64 t105, .int .i64 0, .int .i64 0, .int .i64 0, .int .i64 0]) ?_ 1 _ rfl; refine pB ?_; refine Qg (cs := #[.int .i64 0, .int .i64 0, .int .i64 0, .int .i64 0, .int .i64 0]) ?_ 0 _ rfl; (with_reducible repeat (first | refine Qt ?_ _ | refine Qh ?_ | refine Qap ?_ _)); exact BK110.out) hb); replace HB := bs HB hb; clear hb ho0; obtain ⟨_, _, _, _, _, _, _, _, _, _⟩ := cf5 BK110) | ((with_reducible refine gc 19 rfl ?_); refine gL 40 Tryz.func19 #[.agg #[.int .i64 t105, .int .i64 t106, .int .i64 t107, .int .i64 t108, .int .i64 t109]] ?_; (with_reducible refine (Zl.calls t105 t106 t107 t108 t109 t114 t115 t116 _ A6.out).mono ?_); rintro e w23 ⟨rfl, hb⟩; refine ⟨_, rfl, ?_⟩; replace HO104 := rb HO104 hb; replace HO113 := rb HO113 hb; replace BK101 := bb BK101 hb; replace BK110 := bb BK110 hb; replace HB := bs HB hb; clear hb) | (refine bx 10 #[.int .i64 0, .int .i64 0] 24 ?_; intro gb117 hg w24 hbox hb; replace HO104 := rb HO104 hb; replace HO113 := rb HO113 hb; have BK117 := hbox; have GW117 := gs HB hg; replace HB := bs HB hb; have NB101_117 := nl BK101 hg; have NB117_101 := nr BK101 hg; replace BK101 := bb BK101 hb; have NB110_117 := nl BK110 hg; have NB117_110 := nr BK110 hg; replace BK110 := bb BK110 hb; clear hb hg; have hnb25 := NB117_101.out; have hnc25 := NB101_117.out; have hnb26 := NB117_110.out; have hnc26 := NB110_117.out; obtain ⟨_, _, _, _⟩ := cf2 BK117))
 have n0_ : Qa (Kd.R k100 100 ((w24.setCell ⟨gb117, 0, none⟩ (.int .i64 t114)).setCell ⟨gb117, 1, none⟩ (.int .i64 t115)) w.heap.size (fun _ => True) (.slice Ao20 t102.length co20) t102) := ⟨by (with_reducible repeat (first | apply Kd.R_alloc | apply Kd.R_drewN | apply Kd.R_drew)); exact Kd.R_mono (Rf2 (g := gb117) (Kd.R_types HO104.out BK117.out (by decide))) (fun _ hk => trivial)⟩; have n1_ : Qa (Kd.R (Kd.int .i64) 3 ((w24.setCell ⟨gb117, 0, none⟩ (.int .i64 t114)).setCell ⟨gb117, 1, none⟩ (.int .i64 t115)) w.heap.size (fun _ => True) v112 t111) := ⟨by (with_reducible repeat (first | apply Kd.R_alloc | apply Kd.R_drewN | apply Kd.R_drew)); exact Kd.R_mono (Rf2 (g := gb117) (Kd.R_types HO113.out BK117.out (by decide))) (fun _ hk => trivial)⟩; have n2_ : Qa (((w24.setCell ⟨gb117, 0, none⟩ (.int .i64 t114)).setCell ⟨gb117, 1, none⟩ (.int .i64 t115)).heap[gb101]? = some (.cells #[.slice A0_0 l0_0.length c0_0, .int .u8 a0_1, .int .u8 a0_2, .int .u8 a0_3, .int .u8 a0_4, .int .u8 a0_5] 91 (0, 0))) := ⟨pF BK101⟩; have n3_ : Qa (((w24.setCell ⟨gb117, 0, none⟩ (.int .i64 t114)).setCell ⟨gb117, 1, none⟩ (.int .i64 t115)).heap[gb110]? = some (.cells #[.int .i64 t105, .int .i64 t106, .int .i64 t107, .int .i64 t108, .int .i64 t109] 26 (0, 0))) := ⟨pF BK110⟩; have n4_ : Qa (((w24.setCell ⟨gb117, 0, none⟩ (.int .i64 t114)).setCell ⟨gb117, 1, none⟩ (.int .i64 t115)).heap[gb117]? = some (.cells #[.int .i64 t114, .int .i64 t115] 24 (0, 0))) := ⟨by refine pB ?_; refine Qg (cs := #[.int .i64 t114, .int .i64 0]) ?_ 1 _ rfl; refine pB ?_; refine Qg (cs := #[.int .i64 0, .int .i64 0]) ?_ 0 _ rfl; (with_reducible repeat (first | refine Qt ?_ _ | refine Qh ?_ | refine Qap ?_ _)); exact BK117.out⟩; have n5_ : Qa (Below w.heap.size w ((w24.setCell ⟨gb117, 0, none⟩ (.int .i64 t114)).setCell ⟨gb117, 1, none⟩ (.int .i64 t115))) := ⟨pE HB⟩
 (try clear HO104)
 (try clear HO113)
 (try clear BK101)
 (try clear BK110)
 (try clear BK117)
 (try clear HB)
 generalize ((w24.setCell ⟨gb117, 0, none⟩ (.int .i64 t114)).setCell ⟨gb117, 1, none⟩ (.int .i64 t115)) = w28 at n0_ n1_ n2_ n3_ n4_ n5_ ⊢; have HO104 := n0_; have HO113 := n1_; have BK101 := n2_; have BK110 := n3_; have BK117 := n4_; have HB := n5_; clear n0_ n1_ n2_ n3_ n4_ n5_; replace HO104 := Qa.mk (Kd.R_drew HO104.out); replace HO113 := Qa.mk (Kd.R_drew HO113.out); replace BK101 := Qa.mk (Qh BK101.out); replace BK110 := Qa.mk (Qh BK110.out); replace BK117 := Qa.mk (Qh BK117.out); replace HB := Qa.mk (QM HB.out); refine JS (n := 15) (S := fun w' => w'.cell? ⟨gb110, 0, none⟩ = some (.int .i64 t105) ∧ w'.cell? ⟨gb110, 1, none⟩ = some (.int .i64 t106) ∧ w'.cell? ⟨gb110, 2, none⟩ = some (.int .i64 t107) ∧ w'.cell? ⟨gb110, 3, none⟩ = some (.int .i64 t108) ∧ w'.cell? ⟨gb110, 4, none⟩ = some (.int .i64 t109)) (ds := []) #[false, false, false, false, false, false, false, false, false, false, false, false, false, false, false] (by kernel_rfl) rfl rfl ⟨cz0 BK110, cz1 BK110, cz2 BK110, cz3 BK110, cz4 BK110⟩ (fun hHeld => ?_); refine Jk Qao.tab4 Qao.bits4 (fun HT_ HW_ => ?_); generalize w28.drew = w29 at HO104 HO113 BK101 BK110 BK117 HB hHeld ⊢; refine pU 0 44 ?_; refine pU 3 47 ?_; refine tK 2 46 hHeld ?_; refine on 1 (fun K hK => ?_); refine gO Tryz.func54 #[.slice Ao20 t102.length co20] ?_
 with_reducible refine (Qaw.calls _ _ t102 t118 _ ?side1 ?side2 A7.out).mono ?_
 (case side1 => exact pC (Kd.R_reads' HO104.out).2.2)
 (case side2 => exact (Kd.R_reads' HO104.out).2.1)
 rintro e w30 ⟨v119, rfl, ho0, hb⟩; refine ⟨_, rfl, ?_⟩; replace HO113 := rb HO113 hb; have HO120 := Qa.mk (Kd.R_lower (Kd.R_new' ho0 (Kd.R_lt (pR HO104.out))) (Qr (pE HB))); replace HO104 := re HO104 ho0 hb; replace BK101 := bb BK101 hb; replace BK110 := bb BK110 hb; replace BK117 := bb BK117 hb; replace HB := bs HB hb
 (try clear hb)
 (try clear hb2)
 (try clear hk)
 (try clear hi)
 (try clear ho0)
 obtain ⟨Ao31, co31, eo31⟩ := Kd.R_slice HO113.out
 (first | subst eo31 | (injection eo31 with f1_ f2_ f3_; have f4_ := f1_.symm; have f5_ := f3_.symm; clear f1_ f2_ f3_; subst f4_; subst f5_))
 refine hK.out _ _ ⟨cz0 BK110, cz1 BK110, cz2 BK110, cz3 BK110, cz4 BK110⟩ (fun hHeld => ?_); clear hK K; refine QY (a' := ?_) ?_ ?_
 rotate_left
 ·
  show Act.put _ (some 45) _ = _; simp only [Act.put, List.setIfInBounds_toArray, List.set_cons_zero, List.set_cons_succ, QR, QU]; rfl
 refine on 4 (fun K hK => ?_); refine gO Tryz.func55 #[.slice Ao31 t111.length co31] ?_
 with_reducible refine (Qav.calls _ _ t111 t121 _ ?side1 ?side2 A8.out).mono ?_
 (case side1 => exact pC (Kd.R_reads' HO113.out).2.2)
 (case side2 => exact (Kd.R_reads' HO113.out).2.1)
 rintro e w32 ⟨v122, rfl, ho0, hb⟩; refine ⟨_, rfl, ?_⟩; replace HO104 := rb HO104 hb; replace HO120 := rb HO120 hb; have HO123 := Qa.mk (Kd.R_lower (Kd.R_new' ho0 (Kd.R_lt (pR HO113.out))) (Qr (pE HB))); replace HO113 := re HO113 ho0 hb; replace BK101 := bb BK101 hb; replace BK110 := bb BK110 hb; replace BK117 := bb BK117 hb; replace HB := bs HB hb
 (try clear hb)
 (try clear hb2)
 (try clear hk)
 (try clear hi)
 (try clear ho0)
 obtain ⟨Ao33, co33, eo33⟩ := Kd.R_slice HO120.out
 (first | subst eo33 | (injection eo33 with f1_ f2_ f3_; have f4_ := f1_.symm; have f5_ := f3_.symm; clear f1_ f2_ f3_; subst f4_; subst f5_))
 obtain ⟨Ao34, co34, eo34⟩ := Kd.R_slice HO123.out
 (first | subst eo34 | (injection eo34 with f1_ f2_ f3_; have f4_ := f1_.symm; have f5_ := f3_.symm; clear f1_ f2_ f3_; subst f4_; subst f5_))
 refine hK.out _ _ ⟨cz0 BK110, cz1 BK110, cz2 BK110, cz3 BK110, cz4 BK110⟩ (fun hHeld => ?_); clear hK K; refine QY (a' := ?_) ?_ ?_
 rotate_left
 ·
  show Act.put _ (some 48) _ = _; simp only [Act.put, List.setIfInBounds_toArray, List.set_cons_zero, List.set_cons_succ, QR, QU]; rfl
 refine on 5 (fun K hK => ?_); refine gO Tryz.func20 #[.slice Ao33 t118.length co33, .agg #[.int .i64 t105, .int .i64 t106, .int .i64 t107, .int .i64 t108, .int .i64 t109], .slice Ao34 t121.length co34] ?_
 with_reducible refine (Q0.calls k _ _ t118 t105 t106 t107 t108 t109 _ _ t121 t124 t125 t126 t127 _ ?side1 ?side2 ?side3 ?side4 A9.out).mono ?_
 (case side1 => exact pC (Kd.R_reads' HO120.out).2.2)
 (case side2 => exact (Kd.R_reads' HO120.out).2.1)
 (case side3 => exact pC (Kd.R_reads' HO123.out).2.2)
 (case side4 => exact (Kd.R_reads' HO123.out).2.1)
 rintro e w35 ⟨rfl, hb⟩; refine ⟨_, rfl, ?_⟩; replace HO104 := rb HO104 hb; replace HO113 := rb HO113 hb; replace HO120 := rb HO120 hb; replace HO123 := rb HO123 hb; replace BK101 := bb BK101 hb; replace BK110 := bb BK110 hb; replace BK117 := bb BK117 hb; replace HB := bs HB hb
 (try clear hb)
 (try clear hb2)
 (try clear hk)
 (try clear hi)
 refine hK.out _ _ ⟨cz0 BK110, cz1 BK110, cz2 BK110, cz3 BK110, cz4 BK110⟩ (fun hHeld => ?_); clear hK K; refine QY (a' := ?_) ?_ ?_
 rotate_left
 ·
  show Act.put _ (some 49) _ = _; simp only [Act.put, List.setIfInBounds_toArray, List.set_cons_zero, List.set_cons_succ, QR, QU]; rfl
 refine pU 6 43 ?_; refine pU 7 50 ?_; refine pU 8 51 ?_; refine pU 9 52 ?_; refine pU 10 53 ?_; refine pU 11 12 ?_; refine pU 12 13 ?_; refine pU 13 14 ?_; refine pU 14 15 ?_; refine JD (JM HT_.out (by kernel_rfl)) ?_
 try go_wp2
 replace HO104 := Qa.mk (Kd.R_drew HO104.out); replace HO113 := Qa.mk (Kd.R_drew HO113.out); replace HO120 := Qa.mk (Kd.R_drew HO120.out); replace HO123 := Qa.mk (Kd.R_drew HO123.out); replace BK101 := Qa.mk (Qh BK101.out); replace BK110 := Qa.mk (Qh BK110.out); replace BK117 := Qa.mk (Qh BK117.out); replace HB := Qa.mk (QM HB.out); refine JS (n := 12) (S := fun w' => w'.cell? ⟨gb110, 0, none⟩ = some (.int .i64 t105) ∧ w'.cell? ⟨gb110, 1, none⟩ = some (.int .i64 t106) ∧ w'.cell? ⟨gb110, 2, none⟩ = some (.int .i64 t107) ∧ w'.cell? ⟨gb110, 3, none⟩ = some (.int .i64 t108) ∧ w'.cell? ⟨gb110, 4, none⟩ = some (.int .i64 t109)) (ds := []) #[false, false, false, false, false, false, false, false, false, false, false, false] (by kernel_rfl) rfl rfl ⟨cz0 BK110, cz1 BK110, cz2 BK110, cz3 BK110, cz4 BK110⟩ (fun hHeld => ?_); refine Jk Qao.tab5 Qao.bits5 (fun HT_ HW_ => ?_); generalize w35.drew = w36 at HO104 HO113 HO120 HO123 BK101 BK110 BK117 HB hHeld ⊢; refine pU 0 55 ?_; refine pU 3 58 ?_; refine tK 2 57 hHeld ?_; refine join_ (σ := Value × Value × Nat) 2 #[true, true, true, true, true, true, true, true, true, true, false, false] (fun s_ => [(56, s_.1), (59, s_.2.1), (60, .tuple #[.agg #[.int .i64 t134, .int .i64 t135], .int .i64 t136]), (16, .pointer (some ⟨s_.2.2, 0, none⟩)), (54, .tuple #[.agg #[.int .i64 t134, .int .i64 t135], .int .i64 t136]), (61, .agg #[.int .i64 t134, .int .i64 t135]), (62, .int .i64 t136)]) (fun s_ w' => (w'.cell? ⟨gb110, 0, none⟩ = some (.int .i64 t105) ∧ w'.cell? ⟨gb110, 1, none⟩ = some (.int .i64 t106) ∧ w'.cell? ⟨gb110, 2, none⟩ = some (.int .i64 t107) ∧ w'.cell? ⟨gb110, 3, none⟩ = some (.int .i64 t108) ∧ w'.cell? ⟨gb110, 4, none⟩ = some (.int .i64 t109)) ∧ (Kd.R k100 100 w' w.heap.size (fun k_ => some k_ ≠ (.slice Ao33 t118.length co33 : Value).ownBlock ∧ some k_ ≠ (s_.1 : Value).ownBlock) (.slice Ao20 t102.length co20) t102) ∧ (Kd.R (Kd.int .i64) 3 w' w.heap.size (fun k_ => some k_ ≠ (.slice Ao34 t121.length co34 : Value).ownBlock ∧ some k_ ≠ (s_.2.1 : Value).ownBlock) (.slice Ao31 t111.length co31) t111) ∧ (Kd.R k100 100 w' w.heap.size (fun k_ => some k_ ≠ (.slice Ao20 t102.length co20 : Value).ownBlock ∧ some k_ ≠ (s_.1 : Value).ownBlock) (.slice Ao33 t118.length co33) t118) ∧ (Kd.R (Kd.int .i64) 3 w' w.heap.size (fun k_ => some k_ ≠ (.slice Ao31 t111.length co31 : Value).ownBlock ∧ some k_ ≠ (s_.2.1 : Value).ownBlock) (.slice Ao34 t121.length co34) t121) ∧ (Kd.R k100 100 w' w.heap.size (fun k_ => some k_ ≠ (.slice Ao20 t102.length co20 : Value).ownBlock ∧ some k_ ≠ (.slice Ao33 t118.length co33 : Value).ownBlock) s_.1 t128) ∧ (Kd.R (Kd.int .i64) 3 w' w.heap.size (fun k_ => some k_ ≠ (.slice Ao31 t111.length co31 : Value).ownBlock ∧ some k_ ≠ (.slice Ao34 t121.length co34 : Value).ownBlock) s_.2.1 t131) ∧ (w'.heap[gb101]? = some (.cells #[.slice A0_0 l0_0.length c0_0, .int .u8 a0_1, .int .u8 a0_2, .int .u8 a0_3, .int .u8 a0_4, .int .u8 a0_5] 91 (0, 0))) ∧ (w'.heap[gb110]? = some (.cells #[.int .i64 t105, .int .i64 t106, .int .i64 t107, .int .i64 t108, .int .i64 t109] 26 (0, 0))) ∧ (w'.heap[gb117]? = some (.cells #[.int .i64 t114, .int .i64 t115] 24 (0, 0))) ∧ (w'.heap[s_.2.2]? = some (.cells #[.int .i64 0, .int .i64 0] 24 (0, 0))) ∧ (w.heap.size ≤ s_.2.2) ∧ (w.heap.size ≤ s_.2.2) ∧ (gb101 ≠ s_.2.2) ∧ (s_.2.2 ≠ gb101) ∧ (gb110 ≠ s_.2.2) ∧ (s_.2.2 ≠ gb110) ∧ (gb117 ≠ s_.2.2) ∧ (s_.2.2 ≠ gb117) ∧ (Below w.heap.size w w')) ?_ ?_
 rotate_left
 ·
  intro hCont; refine two_ (i := 1) (j := 9) (Ni := some 56) (Nj := some 16) #[true, true, true, true, false, false, false, false, false, false, false, false] #[true, false, true, true, false, false, false, false, false, true, false, false] rfl rfl rfl rfl (YY HT_.out (by kernel_rfl)) (by decide) (by decide) (fun K hK => ?_) (fun K hK => ?_)
  ·
   skip
   refine gO Tryz.func54 #[.slice Ao20 t102.length co20] ?_
   with_reducible refine (Qaw.calls _ _ t102 t128 _ ?side1 ?side2 A10.out).mono ?_
   (case side1 => exact pC (Kd.R_reads' HO104.out).2.2)
   (case side2 => exact (Kd.R_reads' HO104.out).2.1)
   rintro e w37 ⟨v129, rfl, ho0, hb⟩; refine ⟨_, rfl, ?_⟩; replace HO113 := rb HO113 hb; replace HO123 := rb HO123 hb; have HO130 := Qa.mk (Kd.R_lower (Kd.R_new' (Kd.R_new' ho0 (Kd.R_lt (pR HO104.out))) (Kd.R_lt (pR HO120.out))) (Qr (pE HB))); replace HO104 := re HO104 ho0 hb; replace HO120 := re HO120 ho0 hb; replace BK101 := bb BK101 hb; replace BK110 := bb BK110 hb; replace BK117 := bb BK117 hb; replace HB := bs HB hb
   (try clear hb)
   (try clear hb2)
   (try clear hk)
   (try clear hi)
   (try clear ho0)
   refine hK.out _ _ ⟨cz0 BK110, cz1 BK110, cz2 BK110, cz3 BK110, cz4 BK110⟩ (fun hHeld => ?_); clear hK K; refine QY (a' := ?_) ?_ ?_
   rotate_left
   ·
    show Act.put _ (some 56) _ = _; simp only [Act.put, List.setIfInBounds_toArray, List.set_cons_zero, List.set_cons_succ, QR, QU]; rfl
   refine two_ (i := 4) (j := 9) (Ni := some 59) (Nj := some 16) #[true, true, true, true, true, false, false, false, false, false, false, false] #[true, true, true, true, false, false, false, false, false, true, false, false] rfl rfl rfl rfl (YY HT_.out (by kernel_rfl)) (by decide) (by decide) (fun K hK => ?_) (fun K hK => ?_)
   ·
    skip
    refine gO Tryz.func55 #[.slice Ao31 t111.length co31] ?_
    with_reducible refine (Qav.calls _ _ t111 t131 _ ?side1 ?side2 A11.out).mono ?_
    (case side1 => exact pC (Kd.R_reads' HO113.out).2.2)
    (case side2 => exact (Kd.R_reads' HO113.out).2.1)
    rintro e w38 ⟨v132, rfl, ho0, hb⟩; refine ⟨_, rfl, ?_⟩; replace HO104 := rb HO104 hb; replace HO120 := rb HO120 hb; replace HO130 := rb HO130 hb; have HO133 := Qa.mk (Kd.R_lower (Kd.R_new' (Kd.R_new' ho0 (Kd.R_lt (pR HO113.out))) (Kd.R_lt (pR HO123.out))) (Qr (pE HB))); replace HO113 := re HO113 ho0 hb; replace HO123 := re HO123 ho0 hb; replace BK101 := bb BK101 hb; replace BK110 := bb BK110 hb; replace BK117 := bb BK117 hb; replace HB := bs HB hb
    (try clear hb)
    (try clear hb2)
    (try clear hk)
    (try clear hi)
    (try clear ho0)
    obtain ⟨Ao39, co39, eo39⟩ := Kd.R_slice HO130.out
    (first | subst eo39 | (injection eo39 with f1_ f2_ f3_; have f4_ := f1_.symm; have f5_ := f3_.symm; clear f1_ f2_ f3_; subst f4_; subst f5_))
    obtain ⟨Ao40, co40, eo40⟩ := Kd.R_slice HO133.out
    (first | subst eo40 | (injection eo40 with f1_ f2_ f3_; have f4_ := f1_.symm; have f5_ := f3_.symm; clear f1_ f2_ f3_; subst f4_; subst f5_))
    refine hK.out _ _ ⟨cz0 BK110, cz1 BK110, cz2 BK110, cz3 BK110, cz4 BK110⟩ (fun hHeld => ?_); clear hK K; refine QY (a' := ?_) ?_ ?_
    rotate_left
    ·
     show Act.put _ (some 59) _ = _; simp only [Act.put, List.setIfInBounds_toArray, List.set_cons_zero, List.set_cons_succ, QR, QU]; rfl
    refine two_ (i := 5) (j := 9) (Ni := some 60) (Nj := some 16) #[true, true, true, true, true, true, false, false, false, false, false, false] #[true, true, true, true, true, false, false, false, false, true, false, false] rfl rfl rfl rfl (YY HT_.out (by kernel_rfl)) (by decide) (by decide) (fun K hK => ?_) (fun K hK => ?_)
    ·
     skip
     refine gO Tryz.func21 #[.slice Ao39 t128.length co39, .agg #[.int .i64 t105, .int .i64 t106, .int .i64 t107, .int .i64 t108, .int .i64 t109], .slice Ao40 t131.length co40] ?_
     with_reducible refine (JE.calls k _ _ t128 t105 t106 t107 t108 t109 _ _ t131 t134 t135 t136 _ ?side1 ?side2 ?side3 ?side4 A12.out).mono ?_
     (case side1 => exact pC (Kd.R_reads' HO130.out).2.2)
     (case side2 => exact (Kd.R_reads' HO130.out).2.1)
     (case side3 => exact pC (Kd.R_reads' HO133.out).2.2)
     (case side4 => exact (Kd.R_reads' HO133.out).2.1)
     rintro e w41 ⟨rfl, hb⟩; refine ⟨_, rfl, ?_⟩; replace HO104 := rb HO104 hb; replace HO113 := rb HO113 hb; replace HO120 := rb HO120 hb; replace HO123 := rb HO123 hb; replace HO130 := rb HO130 hb; replace HO133 := rb HO133 hb; replace BK101 := bb BK101 hb; replace BK110 := bb BK110 hb; replace BK117 := bb BK117 hb; replace HB := bs HB hb
     (try clear hb)
     (try clear hb2)
     (try clear hk)
     (try clear hi)
     refine hK.out _ _ ⟨cz0 BK110, cz1 BK110, cz2 BK110, cz3 BK110, cz4 BK110⟩ (fun hHeld => ?_); clear hK K; refine QY (a' := ?_) ?_ ?_
     rotate_left
     ·
      show Act.put _ (some 60) _ = _; simp only [Act.put, List.setIfInBounds_toArray, List.set_cons_zero, List.set_cons_succ, QR, QU]; rfl
     refine pU 6 54 ?_; refine pU 7 61 ?_; refine pU 8 62 ?_; refine on 9 (fun K hK => ?_); refine Xu ?hg (N := 16) ?hd (cs := #[.int .i64 0, .int .i64 0]) (t := 24) ?hr ?_; (case hd => rfl); (case hg => rfl); (case hr => first | (go_simp; done) | (go_simp; rfl)); intro gb137 hg w42 hbox hb; replace HO104 := rb HO104 hb; replace HO113 := rb HO113 hb; replace HO120 := rb HO120 hb; replace HO123 := rb HO123 hb; replace HO130 := rb HO130 hb; replace HO133 := rb HO133 hb; have BK137 := Qa.mk (hbox); have GW137 := gs HB hg; have GE137 := gs HB hg; replace HB := bs HB hb; have NB101_137 := nl BK101 hg; have NB137_101 := nr BK101 hg; replace BK101 := bb BK101 hb; have NB110_137 := nl BK110 hg; have NB137_110 := nr BK110 hg; replace BK110 := bb BK110 hb; have NB117_137 := nl BK117 hg; have NB137_117 := nr BK117 hg; replace BK117 := bb BK117 hb; clear hb hg; refine hK.out _ _ ⟨cz0 BK110, cz1 BK110, cz2 BK110, cz3 BK110, cz4 BK110⟩ (fun hHeld => ?_); clear hK K; refine QY (a' := ?_) ?_ ?_
     rotate_left
     ·
      show Act.put _ (some 16) _ = _; simp only [Act.put, List.setIfInBounds_toArray, List.set_cons_zero, List.set_cons_succ, QR, QU]; rfl
     exact QY (by simp only [ZP, Act.put, List.setIfInBounds_toArray, List.set_cons_zero, List.set_cons_succ]) (hCont (.slice Ao39 t128.length co39, .slice Ao40 t131.length co40, gb137) _ ⟨hHeld, (by refine pR ?_; exact Kd.R_mono HO104.out (fun _ hk => ⟨hk.1.2, hk.2⟩)), (by refine pR ?_; exact Kd.R_mono HO113.out (fun _ hk => ⟨hk.1.2, hk.2⟩)), (by refine pR ?_; exact Kd.R_mono HO120.out (fun _ hk => ⟨hk.1.2, hk.2⟩)), (by refine pR ?_; exact Kd.R_mono HO123.out (fun _ hk => ⟨hk.1.2, hk.2⟩)), (by refine pR ?_; exact Kd.R_mono HO130.out (fun _ hk => ⟨hk.1.2, hk.2⟩)), (by refine pR ?_; exact Kd.R_mono HO133.out (fun _ hk => ⟨hk.1.2, hk.2⟩)), (pB BK101.out), (pB BK110.out), (pB BK117.out), (pB BK137.out), GW137.out, GE137.out, NB101_137.out, NB137_101.out, NB110_137.out, NB137_110.out, NB117_137.out, NB137_117.out, (pE HB)⟩)
    ·
     skip
     refine Xu ?hg (N := 16) ?hd (cs := #[.int .i64 0, .int .i64 0]) (t := 24) ?hr ?_; (case hd => rfl); (case hg => rfl); (case hr => first | (go_simp; done) | (go_simp; rfl)); intro gb137 hg w39 hbox hb; replace HO104 := rb HO104 hb; replace HO113 := rb HO113 hb; replace HO120 := rb HO120 hb; replace HO123 := rb HO123 hb; replace HO130 := rb HO130 hb; replace HO133 := rb HO133 hb; have BK137 := Qa.mk (hbox); have GW137 := gs HB hg; have GE137 := gs HB hg; replace HB := bs HB hb; have NB101_137 := nl BK101 hg; have NB137_101 := nr BK101 hg; replace BK101 := bb BK101 hb; have NB110_137 := nl BK110 hg; have NB137_110 := nr BK110 hg; replace BK110 := bb BK110 hb; have NB117_137 := nl BK117 hg; have NB137_117 := nr BK117 hg; replace BK117 := bb BK117 hb; clear hb hg; obtain ⟨Ao40, co40, eo40⟩ := Kd.R_slice HO130.out
     (first | subst eo40 | (injection eo40 with f1_ f2_ f3_; have f4_ := f1_.symm; have f5_ := f3_.symm; clear f1_ f2_ f3_; subst f4_; subst f5_))
     obtain ⟨Ao41, co41, eo41⟩ := Kd.R_slice HO133.out
     (first | subst eo41 | (injection eo41 with f1_ f2_ f3_; have f4_ := f1_.symm; have f5_ := f3_.symm; clear f1_ f2_ f3_; subst f4_; subst f5_))
     refine hK.out _ _ ⟨cz0 BK110, cz1 BK110, cz2 BK110, cz3 BK110, cz4 BK110⟩ (fun hHeld => ?_); clear hK K; refine QY (a' := ?_) ?_ ?_
     rotate_left
     ·
      show Act.put _ (some 16) _ = _; simp only [Act.put, List.setIfInBounds_toArray, List.set_cons_zero, List.set_cons_succ, QR, QU]; rfl
     refine on 5 (fun K hK => ?_); refine gO Tryz.func21 #[.slice Ao40 t128.length co40, .agg #[.int .i64 t105, .int .i64 t106, .int .i64 t107, .int .i64 t108, .int .i64 t109], .slice Ao41 t131.length co41] ?_
     with_reducible refine (JE.calls k _ _ t128 t105 t106 t107 t108 t109 _ _ t131 t134 t135 t136 _ ?side1 ?side2 ?side3 ?side4 A12.out).mono ?_
     (case side1 => exact pC (Kd.R_reads' HO130.out).2.2)
     (case side2 => exact (Kd.R_reads' HO130.out).2.1)
     (case side3 => exact pC (Kd.R_reads' HO133.out).2.2)
     (case side4 => exact (Kd.R_reads' HO133.out).2.1)
     rintro e w42 ⟨rfl, hb⟩; refine ⟨_, rfl, ?_⟩; replace HO104 := rb HO104 hb; replace HO113 := rb HO113 hb; replace HO120 := rb HO120 hb; replace HO123 := rb HO123 hb; replace HO130 := rb HO130 hb; replace HO133 := rb HO133 hb; replace BK101 := bb BK101 hb; replace BK110 := bb BK110 hb; replace BK117 := bb BK117 hb; replace BK137 := bb BK137 hb; replace HB := bs HB hb
     (try clear hb)
     (try clear hb2)
     (try clear hk)
     (try clear hi)
     refine hK.out _ _ ⟨cz0 BK110, cz1 BK110, cz2 BK110, cz3 BK110, cz4 BK110⟩ (fun hHeld => ?_); clear hK K; refine QY (a' := ?_) ?_ ?_
     rotate_left
     ·
      show Act.put _ (some 60) _ = _; simp only [Act.put, List.setIfInBounds_toArray, List.set_cons_zero, List.set_cons_succ, QR, QU]; rfl
     refine pU 6 54 ?_; refine pU 7 61 ?_; refine pU 8 62 ?_; exact QY (by simp only [ZP, Act.put, List.setIfInBounds_toArray, List.set_cons_zero, List.set_cons_succ]) (hCont (.slice Ao40 t128.length co40, .slice Ao41 t131.length co41, gb137) _ ⟨hHeld, (by refine pR ?_; exact Kd.R_mono HO104.out (fun _ hk => ⟨hk.1.2, hk.2⟩)), (by refine pR ?_; exact Kd.R_mono HO113.out (fun _ hk => ⟨hk.1.2, hk.2⟩)), (by refine pR ?_; exact Kd.R_mono HO120.out (fun _ hk => ⟨hk.1.2, hk.2⟩)), (by refine pR ?_; exact Kd.R_mono HO123.out (fun _ hk => ⟨hk.1.2, hk.2⟩)), (by refine pR ?_; exact Kd.R_mono HO130.out (fun _ hk => ⟨hk.1.2, hk.2⟩)), (by refine pR ?_; exact Kd.R_mono HO133.out (fun _ hk => ⟨hk.1.2, hk.2⟩)), (pB BK101.out), (pB BK110.out), (pB BK117.out), (pB BK137.out), GW137.out, GE137.out, NB101_137.out, NB137_101.out, NB110_137.out, NB137_110.out, NB117_137.out, NB137_117.out, (pE HB)⟩)
   ·
    skip
    refine Xu ?hg (N := 16) ?hd (cs := #[.int .i64 0, .int .i64 0]) (t := 24) ?hr ?_; (case hd => rfl); (case hg => rfl); (case hr => first | (go_simp; done) | (go_simp; rfl)); intro gb137 hg w38 hbox hb; replace HO104 := rb HO104 hb; replace HO113 := rb HO113 hb; replace HO120 := rb HO120 hb; replace HO123 := rb HO123 hb; replace HO130 := rb HO130 hb; have BK137 := Qa.mk (hbox); have GW137 := gs HB hg; have GE137 := gs HB hg; replace HB := bs HB hb; have NB101_137 := nl BK101 hg; have NB137_101 := nr BK101 hg; replace BK101 := bb BK101 hb; have NB110_137 := nl BK110 hg; have NB137_110 := nr BK110 hg; replace BK110 := bb BK110 hb; have NB117_137 := nl BK117 hg; have NB137_117 := nr BK117 hg; replace BK117 := bb BK117 hb; clear hb hg; refine hK.out _ _ ⟨cz0 BK110, cz1 BK110, cz2 BK110, cz3 BK110, cz4 BK110⟩ (fun hHeld => ?_); clear hK K; refine QY (a' := ?_) ?_ ?_
    rotate_left
    ·
     show Act.put _ (some 16) _ = _; simp only [Act.put, List.setIfInBounds_toArray, List.set_cons_zero, List.set_cons_succ, QR, QU]; rfl
    refine on 4 (fun K hK => ?_); refine gO Tryz.func55 #[.slice Ao31 t111.length co31] ?_
    with_reducible refine (Qav.calls _ _ t111 t131 _ ?side1 ?side2 A11.out).mono ?_
    (case side1 => exact pC (Kd.R_reads' HO113.out).2.2)
    (case side2 => exact (Kd.R_reads' HO113.out).2.1)
    rintro e w39 ⟨v132, rfl, ho0, hb⟩; refine ⟨_, rfl, ?_⟩; replace HO104 := rb HO104 hb; replace HO120 := rb HO120 hb; replace HO130 := rb HO130 hb; have HO133 := Qa.mk (Kd.R_lower (Kd.R_new' (Kd.R_new' ho0 (Kd.R_lt (pR HO113.out))) (Kd.R_lt (pR HO123.out))) (Qr (pE HB))); replace HO113 := re HO113 ho0 hb; replace HO123 := re HO123 ho0 hb; replace BK101 := bb BK101 hb; replace BK110 := bb BK110 hb; replace BK117 := bb BK117 hb; replace BK137 := bb BK137 hb; replace HB := bs HB hb
    (try clear hb)
    (try clear hb2)
    (try clear hk)
    (try clear hi)
    (try clear ho0)
    obtain ⟨Ao40, co40, eo40⟩ := Kd.R_slice HO130.out
    (first | subst eo40 | (injection eo40 with f1_ f2_ f3_; have f4_ := f1_.symm; have f5_ := f3_.symm; clear f1_ f2_ f3_; subst f4_; subst f5_))
    obtain ⟨Ao41, co41, eo41⟩ := Kd.R_slice HO133.out
    (first | subst eo41 | (injection eo41 with f1_ f2_ f3_; have f4_ := f1_.symm; have f5_ := f3_.symm; clear f1_ f2_ f3_; subst f4_; subst f5_))
    refine hK.out _ _ ⟨cz0 BK110, cz1 BK110, cz2 BK110, cz3 BK110, cz4 BK110⟩ (fun hHeld => ?_); clear hK K; refine QY (a' := ?_) ?_ ?_
    rotate_left
    ·
     show Act.put _ (some 59) _ = _; simp only [Act.put, List.setIfInBounds_toArray, List.set_cons_zero, List.set_cons_succ, QR, QU]; rfl
    refine on 5 (fun K hK => ?_); refine gO Tryz.func21 #[.slice Ao40 t128.length co40, .agg #[.int .i64 t105, .int .i64 t106, .int .i64 t107, .int .i64 t108, .int .i64 t109], .slice Ao41 t131.length co41] ?_
    with_reducible refine (JE.calls k _ _ t128 t105 t106 t107 t108 t109 _ _ t131 t134 t135 t136 _ ?side1 ?side2 ?side3 ?side4 A12.out).mono ?_
    (case side1 => exact pC (Kd.R_reads' HO130.out).2.2)
    (case side2 => exact (Kd.R_reads' HO130.out).2.1)
    (case side3 => exact pC (Kd.R_reads' HO133.out).2.2)
    (case side4 => exact (Kd.R_reads' HO133.out).2.1)
    rintro e w42 ⟨rfl, hb⟩; refine ⟨_, rfl, ?_⟩; replace HO104 := rb HO104 hb; replace HO113 := rb HO113 hb; replace HO120 := rb HO120 hb; replace HO123 := rb HO123 hb; replace HO130 := rb HO130 hb; replace HO133 := rb HO133 hb; replace BK101 := bb BK101 hb; replace BK110 := bb BK110 hb; replace BK117 := bb BK117 hb; replace BK137 := bb BK137 hb; replace HB := bs HB hb
    (try clear hb)
    (try clear hb2)
    (try clear hk)
    (try clear hi)
    refine hK.out _ _ ⟨cz0 BK110, cz1 BK110, cz2 BK110, cz3 BK110, cz4 BK110⟩ (fun hHeld => ?_); clear hK K; refine QY (a' := ?_) ?_ ?_
    rotate_left
    ·
     show Act.put _ (some 60) _ = _; simp only [Act.put, List.setIfInBounds_toArray, List.set_cons_zero, List.set_cons_succ, QR, QU]; rfl
    refine pU 6 54 ?_; refine pU 7 61 ?_; refine pU 8 62 ?_; exact QY (by simp only [ZP, Act.put, List.setIfInBounds_toArray, List.set_cons_zero, List.set_cons_succ]) (hCont (.slice Ao40 t128.length co40, .slice Ao41 t131.length co41, gb137) _ ⟨hHeld, (by refine pR ?_; exact Kd.R_mono HO104.out (fun _ hk => ⟨hk.1.2, hk.2⟩)), (by refine pR ?_; exact Kd.R_mono HO113.out (fun _ hk => ⟨hk.1.2, hk.2⟩)), (by refine pR ?_; exact Kd.R_mono HO120.out (fun _ hk => ⟨hk.1.2, hk.2⟩)), (by refine pR ?_; exact Kd.R_mono HO123.out (fun _ hk => ⟨hk.1.2, hk.2⟩)), (by refine pR ?_; exact Kd.R_mono HO130.out (fun _ hk => ⟨hk.1.2, hk.2⟩)), (by refine pR ?_; exact Kd.R_mono HO133.out (fun _ hk => ⟨hk.1.2, hk.2⟩)), (pB BK101.out), (pB BK110.out), (pB BK117.out), (pB BK137.out), GW137.out, GE137.out, NB101_137.out, NB137_101.out, NB110_137.out, NB137_110.out, NB117_137.out, NB137_117.out, (pE HB)⟩)
  ·
   skip
   refine Xu ?hg (N := 16) ?hd (cs := #[.int .i64 0, .int .i64 0]) (t := 24) ?hr ?_; (case hd => rfl); (case hg => rfl); (case hr => first | (go_simp; done) | (go_simp; rfl)); intro gb137 hg w37 hbox hb; replace HO104 := rb HO104 hb; replace HO113 := rb HO113 hb; replace HO120 := rb HO120 hb; replace HO123 := rb HO123 hb; have BK137 := Qa.mk (hbox); have GW137 := gs HB hg; have GE137 := gs HB hg; replace HB := bs HB hb; have NB101_137 := nl BK101 hg; have NB137_101 := nr BK101 hg; replace BK101 := bb BK101 hb; have NB110_137 := nl BK110 hg; have NB137_110 := nr BK110 hg; replace BK110 := bb BK110 hb; have NB117_137 := nl BK117 hg; have NB137_117 := nr BK117 hg; replace BK117 := bb BK117 hb; clear hb hg; refine hK.out _ _ ⟨cz0 BK110, cz1 BK110, cz2 BK110, cz3 BK110, cz4 BK110⟩ (fun hHeld => ?_); clear hK K; refine QY (a' := ?_) ?_ ?_
   rotate_left
   ·
    show Act.put _ (some 16) _ = _; simp only [Act.put, List.setIfInBounds_toArray, List.set_cons_zero, List.set_cons_succ, QR, QU]; rfl
   refine on 1 (fun K hK => ?_); refine gO Tryz.func54 #[.slice Ao20 t102.length co20] ?_
   with_reducible refine (Qaw.calls _ _ t102 t128 _ ?side1 ?side2 A10.out).mono ?_
   (case side1 => exact pC (Kd.R_reads' HO104.out).2.2)
   (case side2 => exact (Kd.R_reads' HO104.out).2.1)
   rintro e w38 ⟨v129, rfl, ho0, hb⟩; refine ⟨_, rfl, ?_⟩; replace HO113 := rb HO113 hb; replace HO123 := rb HO123 hb; have HO130 := Qa.mk (Kd.R_lower (Kd.R_new' (Kd.R_new' ho0 (Kd.R_lt (pR HO104.out))) (Kd.R_lt (pR HO120.out))) (Qr (pE HB))); replace HO104 := re HO104 ho0 hb; replace HO120 := re HO120 ho0 hb; replace BK101 := bb BK101 hb; replace BK110 := bb BK110 hb; replace BK117 := bb BK117 hb; replace BK137 := bb BK137 hb; replace HB := bs HB hb
   (try clear hb)
   (try clear hb2)
   (try clear hk)
   (try clear hi)
   (try clear ho0)
   refine hK.out _ _ ⟨cz0 BK110, cz1 BK110, cz2 BK110, cz3 BK110, cz4 BK110⟩ (fun hHeld => ?_); clear hK K; refine QY (a' := ?_) ?_ ?_
   rotate_left
   ·
    show Act.put _ (some 56) _ = _; simp only [Act.put, List.setIfInBounds_toArray, List.set_cons_zero, List.set_cons_succ, QR, QU]; rfl
   refine on 4 (fun K hK => ?_); refine gO Tryz.func55 #[.slice Ao31 t111.length co31] ?_
   with_reducible refine (Qav.calls _ _ t111 t131 _ ?side1 ?side2 A11.out).mono ?_
   (case side1 => exact pC (Kd.R_reads' HO113.out).2.2)
   (case side2 => exact (Kd.R_reads' HO113.out).2.1)
   rintro e w39 ⟨v132, rfl, ho0, hb⟩; refine ⟨_, rfl, ?_⟩; replace HO104 := rb HO104 hb; replace HO120 := rb HO120 hb; replace HO130 := rb HO130 hb; have HO133 := Qa.mk (Kd.R_lower (Kd.R_new' (Kd.R_new' ho0 (Kd.R_lt (pR HO113.out))) (Kd.R_lt (pR HO123.out))) (Qr (pE HB))); replace HO113 := re HO113 ho0 hb; replace HO123 := re HO123 ho0 hb; replace BK101 := bb BK101 hb; replace BK110 := bb BK110 hb; replace BK117 := bb BK117 hb; replace BK137 := bb BK137 hb; replace HB := bs HB hb
   (try clear hb)
   (try clear hb2)
   (try clear hk)
   (try clear hi)
   (try clear ho0)
   obtain ⟨Ao40, co40, eo40⟩ := Kd.R_slice HO130.out
   (first | subst eo40 | (injection eo40 with f1_ f2_ f3_; have f4_ := f1_.symm; have f5_ := f3_.symm; clear f1_ f2_ f3_; subst f4_; subst f5_))
   obtain ⟨Ao41, co41, eo41⟩ := Kd.R_slice HO133.out
   (first | subst eo41 | (injection eo41 with f1_ f2_ f3_; have f4_ := f1_.symm; have f5_ := f3_.symm; clear f1_ f2_ f3_; subst f4_; subst f5_))
   refine hK.out _ _ ⟨cz0 BK110, cz1 BK110, cz2 BK110, cz3 BK110, cz4 BK110⟩ (fun hHeld => ?_); clear hK K; refine QY (a' := ?_) ?_ ?_
   rotate_left
   ·
    show Act.put _ (some 59) _ = _; simp only [Act.put, List.setIfInBounds_toArray, List.set_cons_zero, List.set_cons_succ, QR, QU]; rfl
   refine on 5 (fun K hK => ?_); refine gO Tryz.func21 #[.slice Ao40 t128.length co40, .agg #[.int .i64 t105, .int .i64 t106, .int .i64 t107, .int .i64 t108, .int .i64 t109], .slice Ao41 t131.length co41] ?_
   with_reducible refine (JE.calls k _ _ t128 t105 t106 t107 t108 t109 _ _ t131 t134 t135 t136 _ ?side1 ?side2 ?side3 ?side4 A12.out).mono ?_
   (case side1 => exact pC (Kd.R_reads' HO130.out).2.2)
   (case side2 => exact (Kd.R_reads' HO130.out).2.1)
   (case side3 => exact pC (Kd.R_reads' HO133.out).2.2)
   (case side4 => exact (Kd.R_reads' HO133.out).2.1)
   rintro e w42 ⟨rfl, hb⟩; refine ⟨_, rfl, ?_⟩; replace HO104 := rb HO104 hb; replace HO113 := rb HO113 hb; replace HO120 := rb HO120 hb; replace HO123 := rb HO123 hb; replace HO130 := rb HO130 hb; replace HO133 := rb HO133 hb; replace BK101 := bb BK101 hb; replace BK110 := bb BK110 hb; replace BK117 := bb BK117 hb; replace BK137 := bb BK137 hb; replace HB := bs HB hb
   (try clear hb)
   (try clear hb2)
   (try clear hk)
   (try clear hi)
   refine hK.out _ _ ⟨cz0 BK110, cz1 BK110, cz2 BK110, cz3 BK110, cz4 BK110⟩ (fun hHeld => ?_); clear hK K; refine QY (a' := ?_) ?_ ?_
   rotate_left
   ·
    show Act.put _ (some 60) _ = _; simp only [Act.put, List.setIfInBounds_toArray, List.set_cons_zero, List.set_cons_succ, QR, QU]; rfl
   refine pU 6 54 ?_; refine pU 7 61 ?_; refine pU 8 62 ?_; exact QY (by simp only [ZP, Act.put, List.setIfInBounds_toArray, List.set_cons_zero, List.set_cons_succ]) (hCont (.slice Ao40 t128.length co40, .slice Ao41 t131.length co41, gb137) _ ⟨hHeld, (by refine pR ?_; exact Kd.R_mono HO104.out (fun _ hk => ⟨hk.1.2, hk.2⟩)), (by refine pR ?_; exact Kd.R_mono HO113.out (fun _ hk => ⟨hk.1.2, hk.2⟩)), (by refine pR ?_; exact Kd.R_mono HO120.out (fun _ hk => ⟨hk.1.2, hk.2⟩)), (by refine pR ?_; exact Kd.R_mono HO123.out (fun _ hk => ⟨hk.1.2, hk.2⟩)), (by refine pR ?_; exact Kd.R_mono HO130.out (fun _ hk => ⟨hk.1.2, hk.2⟩)), (by refine pR ?_; exact Kd.R_mono HO133.out (fun _ hk => ⟨hk.1.2, hk.2⟩)), (pB BK101.out), (pB BK110.out), (pB BK117.out), (pB BK137.out), GW137.out, GE137.out, NB101_137.out, NB137_101.out, NB110_137.out, NB137_110.out, NB117_137.out, NB137_117.out, (pE HB)⟩)
 rintro ⟨v129, v132, gb137⟩ w43 ⟨hS_, h0_, h1_, h2_, h3_, h4_, h5_, h6_, h7_, h8_, h9_, h10_, h11_, h12_, h13_, h14_, h15_, h16_, h17_, h18_⟩; have n0_ : Qa (Kd.R k100 100 w43 w.heap.size (fun k_ => some k_ ≠ (.slice Ao33 t118.length co33 : Value).ownBlock ∧ some k_ ≠ (v129 : Value).ownBlock) (.slice Ao20 t102.length co20) t102) := ⟨h0_⟩; have n1_ : Qa (Kd.R (Kd.int .i64) 3 w43 w.heap.size (fun k_ => some k_ ≠ (.slice Ao34 t121.length co34 : Value).ownBlock ∧ some k_ ≠ (v132 : Value).ownBlock) (.slice Ao31 t111.length co31) t111) := ⟨h1_⟩; have n2_ : Qa (Kd.R k100 100 w43 w.heap.size (fun k_ => some k_ ≠ (.slice Ao20 t102.length co20 : Value).ownBlock ∧ some k_ ≠ (v129 : Value).ownBlock) (.slice Ao33 t118.length co33) t118) := ⟨h2_⟩; have n3_ : Qa (Kd.R (Kd.int .i64) 3 w43 w.heap.size (fun k_ => some k_ ≠ (.slice Ao31 t111.length co31 : Value).ownBlock ∧ some k_ ≠ (v132 : Value).ownBlock) (.slice Ao34 t121.length co34) t121) := ⟨h3_⟩; have n4_ : Qa (Kd.R k100 100 w43 w.heap.size (fun k_ => some k_ ≠ (.slice Ao20 t102.length co20 : Value).ownBlock ∧ some k_ ≠ (.slice Ao33 t118.length co33 : Value).ownBlock) v129 t128) := ⟨h4_⟩; have n5_ : Qa (Kd.R (Kd.int .i64) 3 w43 w.heap.size (fun k_ => some k_ ≠ (.slice Ao31 t111.length co31 : Value).ownBlock ∧ some k_ ≠ (.slice Ao34 t121.length co34 : Value).ownBlock) v132 t131) := ⟨h5_⟩; have n6_ : Qa (w43.heap[gb101]? = some (.cells #[.slice A0_0 l0_0.length c0_0, .int .u8 a0_1, .int .u8 a0_2, .int .u8 a0_3, .int .u8 a0_4, .int .u8 a0_5] 91 (0, 0))) := ⟨h6_⟩; have n7_ : Qa (w43.heap[gb110]? = some (.cells #[.int .i64 t105, .int .i64 t106, .int .i64 t107, .int .i64 t108, .int .i64 t109] 26 (0, 0))) := ⟨h7_⟩; have n8_ : Qa (w43.heap[gb117]? = some (.cells #[.int .i64 t114, .int .i64 t115] 24 (0, 0))) := ⟨h8_⟩; have n9_ : Qa (w43.heap[gb137]? = some (.cells #[.int .i64 0, .int .i64 0] 24 (0, 0))) := ⟨h9_⟩; have n10_ : Qa (w.heap.size ≤ gb137) := ⟨h10_⟩; have n11_ : Qa (w.heap.size ≤ gb137) := ⟨h11_⟩; have n12_ : Qa (gb101 ≠ gb137) := ⟨h12_⟩; have n13_ : Qa (gb137 ≠ gb101) := ⟨h13_⟩; have n14_ : Qa (gb110 ≠ gb137) := ⟨h14_⟩; have n15_ : Qa (gb137 ≠ gb110) := ⟨h15_⟩; have n16_ : Qa (gb117 ≠ gb137) := ⟨h16_⟩; have n17_ : Qa (gb137 ≠ gb117) := ⟨h17_⟩; have n18_ : Qa (Below w.heap.size w w43) := ⟨h18_⟩; clear HO104 HO113 HO120 HO123 BK101 BK110 BK117 HB h0_ h1_ h2_ h3_ h4_ h5_ h6_ h7_ h8_ h9_ h10_ h11_ h12_ h13_ h14_ h15_ h16_ h17_ h18_; have HO104 := n0_; have HO113 := n1_; have HO120 := n2_; have HO123 := n3_; have HO130 := n4_; have HO133 := n5_; have BK101 := n6_; have BK110 := n7_; have BK117 := n8_; have BK137 := n9_; have GW137 := n10_; have GE137 := n11_; have NB101_137 := n12_; have NB137_101 := n13_; have NB110_137 := n14_; have NB137_110 := n15_; have NB117_137 := n16_; have NB137_117 := n17_; have HB := n18_; clear n0_ n1_ n2_ n3_ n4_ n5_ n6_ n7_ n8_ n9_ n10_ n11_ n12_ n13_ n14_ n15_ n16_ n17_ n18_; have hHeld : w43.cell? ⟨gb110, 0, none⟩ = some (.int .i64 t105) ∧ w43.cell? ⟨gb110, 1, none⟩ = some (.int .i64 t106) ∧ w43.cell? ⟨gb110, 2, none⟩ = some (.int .i64 t107) ∧ w43.cell? ⟨gb110, 3, none⟩ = some (.int .i64 t108) ∧ w43.cell? ⟨gb110, 4, none⟩ = some (.int .i64 t109) := hS_; refine QY (a' := ?_) ?_ ?_
 rotate_left
 ·
  simp only [ZP, Act.put, List.setIfInBounds_toArray, List.set_cons_zero, List.set_cons_succ]; rfl
 refine on 10 (fun K hK => ?_); have hs44 : w43.cell? ⟨gb137, 0, none⟩ = some (.int .i64 0) := (Qb BK137.out 0).trans rfl; have hfs44 := Qq BK137.out 0; have hns44_0 := NB101_137.out; have hns44_1 := NB110_137.out; have hns44_2 := NB117_137.out; have hms44_0 := NB137_101.out; have hms44_1 := NB137_110.out; have hms44_2 := NB137_117.out; have hs45 : w43.cell? ⟨gb137, 1, none⟩ = some (.int .i64 0) := (Qb BK137.out 1).trans rfl; have hfs45 := Qq BK137.out 1; have hns45_0 := NB101_137.out; have hns45_1 := NB110_137.out; have hns45_2 := NB117_137.out; have hms45_0 := NB137_101.out; have hms45_1 := NB137_110.out; have hms45_2 := NB137_117.out; refine Z7 (w1 := ?_) (by rfl) rfl ?_ ?_
 rotate_left
 ·
  go_simp
  rfl
 refine hK.out _ _ ⟨((QW (p := ⟨gb137, _, none⟩) NB110_137.out _).trans (((QW (p := ⟨gb137, _, none⟩) NB110_137.out _).trans (hHeld.1)))), ((QW (p := ⟨gb137, _, none⟩) NB110_137.out _).trans (((QW (p := ⟨gb137, _, none⟩) NB110_137.out _).trans (hHeld.2.1)))), ((QW (p := ⟨gb137, _, none⟩) NB110_137.out _).trans (((QW (p := ⟨gb137, _, none⟩) NB110_137.out _).trans (hHeld.2.2.1)))), ((QW (p := ⟨gb137, _, none⟩) NB110_137.out _).trans (((QW (p := ⟨gb137, _, none⟩) NB110_137.out _).trans (hHeld.2.2.2.1)))), ((QW (p := ⟨gb137, _, none⟩) NB110_137.out _).trans (((QW (p := ⟨gb137, _, none⟩) NB110_137.out _).trans (hHeld.2.2.2.2))))⟩ (fun hHeld => ?_); clear hK K; refine pU 11 17 ?_; refine JD (JM HT_.out (by kernel_rfl)) ?_; go_upto_region 6 with (fail)
 go_cut [86] (fun v86 wc => ∃ (kq : Nat) (x86_12 : Bool), v86 = .bool x86_12 ∧ Qa (Qao.j0 kq l2 t102 t111 t124 t125 t126 x86_12 t105 t106 t107 t108 t109 t114 t115 t134 t135 = some r) ∧ Qa (kq ≤ k) ∧ Qa (Kd.R k100 100 wc w.heap.size (fun _ => True) (.slice Ao20 t102.length co20) t102) ∧ Qa (Kd.R (Kd.int .i64) 3 wc w.heap.size (fun _ => True) (.slice Ao31 t111.length co31) t111) ∧ Qa (wc.heap[gb101]? = some (.cells #[(.slice A0_0 l0_0.length c0_0), .int .u8 a0_1, .int .u8 a0_2, .int .u8 a0_3, .int .u8 a0_4, .int .u8 a0_5] 91 (0, 0))) ∧ Qa (wc.heap[gb110]? = some (.cells #[.int .i64 t105, .int .i64 t106, .int .i64 t107, .int .i64 t108, .int .i64 t109] 26 (0, 0))) ∧ Qa (wc.heap[gb117]? = some (.cells #[.int .i64 t114, .int .i64 t115] 24 (0, 0))) ∧ Qa (wc.heap[gb137]? = some (.cells #[.int .i64 t134, .int .i64 t135] 24 (0, 0))) ∧ Qa (Below w.heap.size w wc))
 case first =>
  have H := HC13.out; clear HC13; by_cases c46 : t116 = 0
  ·
   rw [if_pos c46] at H; have c46b0 : (t116 == 0) = true := beq_iff_eq.mpr c46; have c46b1 : (t116 != 0) = false := bne_eq_false_iff_eq.mpr c46; clear c46
   (first | rw [c46b0] | (simp only [QR, QU]; rw [c46b0]) | skip)
   by_cases c47 : t127 = 0
   ·
    rw [if_pos c47] at H; have c47b0 : (t127 == 0) = true := beq_iff_eq.mpr c47; have c47b1 : (t127 != 0) = false := bne_eq_false_iff_eq.mpr c47; clear c47; by_cases c48 : t136 = 0
    ·
     rw [if_pos c48] at H; have c48b0 : (t136 == 0) = true := beq_iff_eq.mpr c48; have c48b1 : (t136 != 0) = false := bne_eq_false_iff_eq.mpr c48; clear c48; by_cases c49 : (t124 != (decide (t134 ≥ 0))) = true
     ·
      rw [if_pos c49] at H; have c49b0 : (t124 != (decide (t134 ≥ 0))) = true := c49
      (try (have c49b1 : decide (t124 = (decide (t134 ≥ 0))) = false := by simpa using c49))
      (try (have c49b2 : (t124 == (decide (t134 ≥ 0))) = false := by simpa using c49))
      (try (have c49b3 : ¬ (t124 = (decide (t134 ≥ 0))) := by simpa using c49))
      clear c49; exact (Qao.dead_j0 _ _ _ _ _ _ _ _ _ _ _ _ _ _ _ _ _ H HRT.out).elim
     ·
      rw [if_neg c49] at H; have c49b0 : (t124 != (decide (t134 ≥ 0))) = false := by simpa using c49
      (try (have c49b1 : decide (t124 = (decide (t134 ≥ 0))) = true := by simpa using c49))
      (try (have c49b2 : (t124 == (decide (t134 ≥ 0))) = true := by simpa using c49))
      clear c49; have H' := Qa.mk H; clear H; have hnb50 := NB137_101.out; have hnc50 := NB101_137.out; have hnb51 := NB137_110.out; have hnc51 := NB110_137.out; have hnb52 := NB137_117.out; have hnc52 := NB117_137.out; obtain ⟨hcz53_0, hcz53_1, hfz53_0, hfz53_1⟩ := cf2 BK137; go_wp2
      go_meet
      case rel => exact ⟨_, ((t125 != (decide (t135 ≥ 0)))), eS, H', ⟨by first | omega | exact Nat.le_refl _⟩, ⟨by (with_reducible repeat (first | apply Kd.R_alloc | apply Kd.R_drewN | apply Kd.R_drew)); exact Kd.R_mono (Rf2 (g := gb137) (Kd.R_types HO104.out BK137.out (by decide))) (fun _ hk => trivial)⟩, ⟨by (with_reducible repeat (first | apply Kd.R_alloc | apply Kd.R_drewN | apply Kd.R_drew)); exact Kd.R_mono (Rf2 (g := gb137) (Kd.R_types HO113.out BK137.out (by decide))) (fun _ hk => trivial)⟩, ⟨pF BK101⟩, ⟨pF BK110⟩, ⟨pF BK117⟩, ⟨by refine pB ?_; refine Qg (cs := #[.int .i64 t134, .int .i64 0]) ?_ 1 _ rfl; refine pB ?_; refine Qg (cs := #[.int .i64 0, .int .i64 0]) ?_ 0 _ rfl; (with_reducible repeat (first | refine Qt ?_ _ | refine Qh ?_ | refine Qap ?_ _)); exact BK137.out⟩, ⟨pE HB⟩⟩
    ·
     rw [if_neg c48] at H; have c48b0 : (t136 == 0) = false := beq_eq_false_iff_ne.mpr c48; have c48b1 : (t136 != 0) = true := bne_iff_ne.mpr c48; exact (Qao.dead_j0 _ _ _ _ _ _ _ _ _ _ _ _ _ _ _ _ _ H HRT.out).elim
   ·
    rw [if_neg c47] at H; have c47b0 : (t127 == 0) = false := beq_eq_false_iff_ne.mpr c47; have c47b1 : (t127 != 0) = true := bne_iff_ne.mpr c47; exact (Qao.dead_j0 _ _ _ _ _ _ _ _ _ _ _ _ _ _ _ _ _ H HRT.out).elim
  ·
   rw [if_neg c46] at H; have c46b0 : (t116 == 0) = false := beq_eq_false_iff_ne.mpr c46; have c46b1 : (t116 != 0) = true := bne_iff_ne.mpr c46
   (first | rw [c46b0] | (simp only [QR, QU]; rw [c46b0]) | skip)
   exact (Qao.dead_j0 _ _ _ _ _ _ _ _ _ _ _ _ _ _ _ _ _ H HRT.out).elim
 case rest =>
  as_aux_lemma =>
  clear HC13; try clear c2
  obtain ⟨kq, x86_12, rfl, HA, HJ12, HO_7, HO_9, BK101, BK110, BK117, BK137, HB⟩ := hcut
  cases kq with
  | zero => exact absurd HA.out (by simp [Qao.j0])
  | succ kj12 =>
   have H := HA.out; clear HA; simp only [Qao.j0] at H; by_cases c54 : x86_12 = true
   ·
    subst c54; rw [if_pos rfl] at H; exact absurd ((Option.some.inj H).trans HRT.out) (by simp)
   ·
    replace c54 := Bool.eq_false_iff.mpr c54; subst c54; rw [if_neg (show ¬ (false = true) by decide)] at H; obtain ⟨t138, A55, H⟩ := bi H; obtain ⟨t139, A56, H⟩ := bi H; obtain ⟨t140, A57, H⟩ := bi H; obtain ⟨t141, A58, H⟩ := bi H; have H' := Qa.mk H; clear H
    try go_wp2
    replace HO_7 := Qa.mk (Kd.R_drew HO_7.out); replace HO_9 := Qa.mk (Kd.R_drew HO_9.out); replace BK101 := Qa.mk (Qh BK101.out); replace BK110 := Qa.mk (Qh BK110.out); replace BK117 := Qa.mk (Qh BK117.out); replace BK137 := Qa.mk (Qh BK137.out); replace HB := Qa.mk (QM HB.out); refine JS (n := 12) (S := fun w' => w'.cell? ⟨gb110, 0, none⟩ = some (.int .i64 t105) ∧ w'.cell? ⟨gb110, 1, none⟩ = some (.int .i64 t106) ∧ w'.cell? ⟨gb110, 2, none⟩ = some (.int .i64 t107) ∧ w'.cell? ⟨gb110, 3, none⟩ = some (.int .i64 t108) ∧ w'.cell? ⟨gb110, 4, none⟩ = some (.int .i64 t109)) (ds := []) #[false, false, false, false, false, false, false, false, false, false, false, false] (by kernel_rfl) rfl rfl ⟨cz0 BK110, cz1 BK110, cz2 BK110, cz3 BK110, cz4 BK110⟩ (fun hHeld => ?_); refine Jk Qao.tab8 Qao.bits8 (fun HT_ HW_ => ?_); generalize wc.drew = w59 at HO_7 HO_9 BK101 BK110 BK117 BK137 HB hHeld ⊢; refine pU 0 87 ?_; refine pU 2 89 ?_; refine pU 5 92 ?_; refine pU 7 94 ?_; refine tK 1 88 hHeld ?_; refine tK 6 93 hHeld ?_; refine on 3 (fun K hK => ?_); refine gO Tryz.func57 #[.slice A2 l2.length c2, .int .i64 0] ?_
    with_reducible refine (Qay.calls _ _ l2 0 t138 _ ?side1 ?side2 A55.out).mono ?_
    (case side1 => exact pC (Kd.C_below HR2.out HB.out))
    (case side2 => exact HC2.out)
    rintro e w' ⟨rfl, ⟨nd, rfl⟩⟩; refine ⟨_, rfl, ?_⟩; refine hK.out _ _ ⟨cz0 BK110, cz1 BK110, cz2 BK110, cz3 BK110, cz4 BK110⟩ (fun hHeld => ?_); clear hK K; refine QY (a' := ?_) ?_ ?_
    rotate_left
    ·
     show Act.put _ (some 90) _ = _; simp only [Act.put, List.setIfInBounds_toArray, List.set_cons_zero, List.set_cons_succ, QR, QU]; rfl
    refine on 4 (fun K hK => ?_); refine gO Tryz.func56 #[.agg #[.int .i64 t105, .int .i64 t106], .int .i64 t138] ?_
    with_reducible refine (Qaz.calls t105 t106 t138 t139 _ A56.out).mono ?_
    rintro e w60 ⟨rfl, hb⟩; refine ⟨_, rfl, ?_⟩; replace HO_7 := rb HO_7 hb; replace HO_9 := rb HO_9 hb; replace BK101 := bb BK101 hb; replace BK110 := bb BK110 hb; replace BK117 := bb BK117 hb; replace BK137 := bb BK137 hb; replace HB := bs HB hb
    (try clear hb)
    (try clear hb2)
    (try clear hk)
    (try clear hi)
    refine hK.out _ _ ⟨cz0 BK110, cz1 BK110, cz2 BK110, cz3 BK110, cz4 BK110⟩ (fun hHeld => ?_); clear hK K; refine QY (a' := ?_) ?_ ?_
    rotate_left
    ·
     show Act.put _ (some 91) _ = _; simp only [Act.put, List.setIfInBounds_toArray, List.set_cons_zero, List.set_cons_succ, QR, QU]; rfl
    refine on 8 (fun K hK => ?_); refine gO Tryz.func57 #[.slice A2 l2.length c2, .int .i64 1] ?_
    with_reducible refine (Qay.calls _ _ l2 1 t140 _ ?side1 ?side2 A57.out).mono ?_
    (case side1 => exact pC (Kd.C_below HR2.out HB.out))
    (case side2 => exact HC2.out)
    rintro e w' ⟨rfl, ⟨nd, rfl⟩⟩; refine ⟨_, rfl, ?_⟩; refine hK.out _ _ ⟨cz0 BK110, cz1 BK110, cz2 BK110, cz3 BK110, cz4 BK110⟩ (fun hHeld => ?_); clear hK K; refine QY (a' := ?_) ?_ ?_
    rotate_left
    ·
     show Act.put _ (some 95) _ = _; simp only [Act.put, List.setIfInBounds_toArray, List.set_cons_zero, List.set_cons_succ, QR, QU]; rfl
    refine on 9 (fun K hK => ?_); refine gO Tryz.func56 #[.agg #[.int .i64 t107, .int .i64 t108], .int .i64 t140] ?_
    with_reducible refine (Qaz.calls t107 t108 t140 t141 _ A58.out).mono ?_
    rintro e w61 ⟨rfl, hb⟩; refine ⟨_, rfl, ?_⟩; replace HO_7 := rb HO_7 hb; replace HO_9 := rb HO_9 hb; replace BK101 := bb BK101 hb; replace BK110 := bb BK110 hb; replace BK117 := bb BK117 hb; replace BK137 := bb BK137 hb; replace HB := bs HB hb
    (try clear hb)
    (try clear hb2)
    (try clear hk)
    (try clear hi)
    refine hK.out _ _ ⟨cz0 BK110, cz1 BK110, cz2 BK110, cz3 BK110, cz4 BK110⟩ (fun hHeld => ?_); clear hK K; refine QY (a' := ?_) ?_ ?_
    rotate_left
    ·
     show Act.put _ (some 96) _ = _; simp only [Act.put, List.setIfInBounds_toArray, List.set_cons_zero, List.set_cons_succ, QR, QU]; rfl
    refine pU 10 18 ?_; refine pU 11 19 ?_; refine JD (JM HT_.out (by kernel_rfl)) ?_
    try go_wp2_with (first | (refine bx 22 #[.int .i64 0, .int .i64 0] 98 ?_; intro gb142 hg w62 hbox hb; replace HO_7 := rb HO_7 hb; replace HO_9 := rb HO_9 hb; have BK142 := hbox; have GW142 := gs HB hg; replace HB := bs HB hb; have NB101_142 := nl BK101 hg; have NB142_101 := nr BK101 hg; replace BK101 := bb BK101 hb; have NB110_142 := nl BK110 hg; have NB142_110 := nr BK110 hg; replace BK110 := bb BK110 hb; have NB117_142 := nl BK117 hg; have NB142_117 := nr BK117 hg; replace BK117 := bb BK117 hb; have NB137_142 := nl BK137 hg; have NB142_137 := nr BK137 hg; replace BK137 := bb BK137 hb; clear hb hg; have hnb63 := NB142_101.out; have hnc63 := NB101_142.out; have hnb64 := NB142_110.out; have hnc64 := NB110_142.out; have hnb65 := NB142_117.out; have hnc65 := NB117_142.out; have hnb66 := NB142_137.out; have hnc66 := NB137_142.out; obtain ⟨hcz67_0, hcz67_1, hfz67_0, hfz67_1⟩ := cf2 BK142))
    generalize hgr9 : wrap64 (Int.tdiv (wrap64 ((wrap64 (t139 * t141)) + 999)) 1000) = gr9 at H' ⊢; clear hgr9
    go_loopg [21, 23] kj12 (fun kq v21 v23 w' => ∃ (x21_2 : Int) (x23_2 : Int) (x143000_2 : Int) (x143001_2 : Int), v21 = .int .i64 x21_2 ∧ v23 = .int .i64 x23_2 ∧ Qa (Qao.l0 kq l2 t102 t111 t124 t125 t126 gr9 x21_2 x23_2 t105 t106 t107 t108 t109 t114 t115 t134 t135 x143000_2 x143001_2 = some r) ∧ Qa (kq ≤ kj12) ∧ Qa (Kd.R k100 100 w' w.heap.size (fun _ => True) (.slice Ao20 t102.length co20) t102) ∧ Qa (Kd.R (Kd.int .i64) 3 w' w.heap.size (fun _ => True) (.slice Ao31 t111.length co31) t111) ∧ Qa (w'.heap[gb101]? = some (.cells #[(.slice A0_0 l0_0.length c0_0), .int .u8 a0_1, .int .u8 a0_2, .int .u8 a0_3, .int .u8 a0_4, .int .u8 a0_5] 91 (0, 0))) ∧ Qa (w'.heap[gb110]? = some (.cells #[.int .i64 t105, .int .i64 t106, .int .i64 t107, .int .i64 t108, .int .i64 t109] 26 (0, 0))) ∧ Qa (w'.heap[gb117]? = some (.cells #[.int .i64 t114, .int .i64 t115] 24 (0, 0))) ∧ Qa (w'.heap[gb137]? = some (.cells #[.int .i64 t134, .int .i64 t135] 24 (0, 0))) ∧ Qa (w'.heap[gb142]? = some (.cells #[.int .i64 x143000_2, .int .i64 x143001_2] 98 (0, 0))) ∧ Qa (Below w.heap.size w w'))
    case atStart => exact ⟨(0), (0), (0), (0), eS, eS, H', ⟨Nat.le_refl _⟩, ⟨by (with_reducible repeat (first | apply Kd.R_alloc | apply Kd.R_drewN | apply Kd.R_drew)); exact Kd.R_mono (Rf2 (g := gb142) (Kd.R_types HO_7.out BK142.out (by decide))) (fun _ hk => trivial)⟩, ⟨by (with_reducible repeat (first | apply Kd.R_alloc | apply Kd.R_drewN | apply Kd.R_drew)); exact Kd.R_mono (Rf2 (g := gb142) (Kd.R_types HO_9.out BK142.out (by decide))) (fun _ hk => trivial)⟩, ⟨pF BK101⟩, ⟨pF BK110⟩, ⟨pF BK117⟩, ⟨pF BK137⟩, ⟨by refine pB ?_; refine Qg (cs := #[.int .i64 0, .int .i64 0]) ?_ 1 _ rfl; refine pB ?_; refine Qg (cs := #[.int .i64 0, .int .i64 0]) ?_ 0 _ rfl; (with_reducible repeat (first | refine Qt ?_ _ | refine Qh ?_ | refine Qap ?_ _)); exact BK142.out⟩, ⟨pE HB⟩⟩
    case round =>
     as_aux_lemma =>
     clear H'
     (try clear c2); (try clear c54); (try clear hcz67_0); (try clear hcz67_1); (try clear hfz67_0); (try clear hfz67_1)
     obtain ⟨x21_2, x23_2, x143000_2, x143001_2, rfl, rfl, HA, HK2, HO_7, HO_9, BK101, BK110, BK117, BK137, BK142, HB⟩ := hrel
     cases gk with
     | zero => exact absurd HA.out (by simp [Qao.l0])
     | succ k2 =>
      have H := HA.out; clear HA; simp only [Qao.l0] at H; by_cases c68 : x23_2 < (t102.length : Int)
      ·
       rw [if_pos c68] at H; have c68b0 : decide (x23_2 < (t102.length : Int)) = true := decide_eq_true c68; clear c68; by_cases c69 : 0 ≤ x23_2
       ·
        rw [if_pos c69] at H; have c69b0 : decide (0 ≤ x23_2) = true := decide_eq_true c69; clear c69; by_cases c70 : x23_2 < (t111.length : Int)
        ·
         rw [if_pos c70] at H; have c70b0 : decide (x23_2 < (t111.length : Int)) = true := decide_eq_true c70; clear c70; obtain ⟨t145, A71, H⟩ := bi H; obtain ⟨t146, A72, H⟩ := bi H; have H' := Qa.mk H; clear H
         try go_wp2
         replace HO_7 := Qa.mk (Kd.R_drew HO_7.out); replace HO_9 := Qa.mk (Kd.R_drew HO_9.out); replace BK101 := Qa.mk (Qh BK101.out); replace BK110 := Qa.mk (Qh BK110.out); replace BK117 := Qa.mk (Qh BK117.out); replace BK137 := Qa.mk (Qh BK137.out); replace BK142 := Qa.mk (Qh BK142.out); replace HB := Qa.mk (QM HB.out); have p143 : 0 ≤ (x23_2 : Int) := dT; have q143 : x23_2 < (t111.length : Int) := dT; obtain ⟨ad143, e143, hx143_0⟩ := Kd.at_int (Kd.R_reads' HO_9.out).2.2 x23_2 p143 q143
         cases e143
         replace p143 := eq_true p143; replace q143 := eq_true q143; have p144 : 0 ≤ (x23_2 : Int) := dT; have q144 : x23_2 < (t102.length : Int) := dT; obtain ⟨ad144, e144, hx144_0, hx144_1, hx144_2, hx144_3, hx144_4⟩ := Zf (Kd.R_reads' HO_7.out).2.2 x23_2 p144 q144
         cases e144
         replace p144 := eq_true p144; replace q144 := eq_true q144; refine JS (n := 18) (S := fun w' => w'.cell? (ad143.add (x23_2).toNat) = some (.int .i64 (rd t111 x23_2)) ∧ w'.cell? (ad144.add ((x23_2).toNat * 5)) = some (.int .i64 ((Qf t102 x23_2).f0.f0)) ∧ w'.cell? ⟨(ad144.add ((x23_2).toNat * 5)).block, (ad144.add ((x23_2).toNat * 5)).off + 1, none⟩ = some (.int .i64 ((Qf t102 x23_2).f0.f1)) ∧ w'.cell? ⟨(ad144.add ((x23_2).toNat * 5)).block, (ad144.add ((x23_2).toNat * 5)).off + 2, none⟩ = some (.int .i64 ((Qf t102 x23_2).f1)) ∧ w'.cell? ⟨(ad144.add ((x23_2).toNat * 5)).block, (ad144.add ((x23_2).toNat * 5)).off + 3, none⟩ = some (.int .i64 ((Qf t102 x23_2).f2)) ∧ w'.cell? ⟨(ad144.add ((x23_2).toNat * 5)).block, (ad144.add ((x23_2).toNat * 5)).off + 4, none⟩ = some (.int .i64 ((Qf t102 x23_2).f3))) (ds := []) #[false, false, false, false, false, false, false, false, false, false, false, false, false, false, false, false, false, false] (by kernel_rfl) rfl rfl ⟨hx143_0, hx144_0, hx144_1, hx144_2, hx144_3, hx144_4⟩ (fun hHeld => ?_); refine Jk Qao.tab14 Qao.bits14 (fun HT_ HW_ => ?_); generalize wr.drew = w73 at HO_7 HO_9 BK101 BK110 BK117 BK137 BK142 HB hx143_0 hx144_0 hx144_1 hx144_2 hx144_3 hx144_4 hHeld ⊢; refine pU 0 109 ?_; refine pU 1 110 ?_; refine pU 2 111 ?_; refine pU 3 112 ?_; refine pU 5 114 ?_; refine pU 6 115 ?_; refine pU 7 116 ?_; refine pU 8 117 ?_; refine pU 10 119 ?_; refine pU 11 120 ?_; refine pU 12 121 ?_; refine tK 4 113 hHeld ?_; refine tK 9 118 hHeld ?_; refine on 13 (fun K hK => ?_); refine gO Tryz.func57 #[.slice A2 l2.length c2, .int .i64 (wrap64 (2 + x23_2))] ?_
         with_reducible refine (Qay.calls _ _ l2 (wrap64 (2 + x23_2)) t145 _ ?side1 ?side2 A71.out).mono ?_
         (case side1 => exact pC (Kd.C_below HR2.out HB.out))
         (case side2 => exact HC2.out)
         rintro e w' ⟨rfl, ⟨nd, rfl⟩⟩; refine ⟨_, rfl, ?_⟩; refine hK.out _ _ ⟨hHeld.1, hHeld.2.1, hHeld.2.2.1, hHeld.2.2.2.1, hHeld.2.2.2.2.1, hHeld.2.2.2.2.2⟩ (fun hHeld => ?_); clear hK K; refine QY (a' := ?_) ?_ ?_
         rotate_left
         ·
          show Act.put _ (some 122) _ = _; simp only [Act.put, List.setIfInBounds_toArray, List.set_cons_zero, List.set_cons_succ, QR, QU]; rfl
         refine on 14 (fun K hK => ?_); refine gO Tryz.func56 #[.agg #[.int .i64 ((Qf t102 x23_2).f0.f0), .int .i64 ((Qf t102 x23_2).f0.f1)], .int .i64 t145] ?_
         with_reducible refine (Qaz.calls ((Qf t102 x23_2).f0.f0) ((Qf t102 x23_2).f0.f1) t145 t146 _ A72.out).mono ?_
         rintro e w74 ⟨rfl, hb⟩; have HS0_ := (hb.cell (World.block_lt_of_cell? _ _ (hHeld.1))).trans (hHeld.1); have HS1_ := (hb.cell (World.block_lt_of_cell? _ _ (hHeld.2.1))).trans (hHeld.2.1); have HS2_ := (hb.cell (World.block_lt_of_cell? _ _ (hHeld.2.2.1))).trans (hHeld.2.2.1); have HS3_ := (hb.cell (World.block_lt_of_cell? _ _ (hHeld.2.2.2.1))).trans (hHeld.2.2.2.1); have HS4_ := (hb.cell (World.block_lt_of_cell? _ _ (hHeld.2.2.2.2.1))).trans (hHeld.2.2.2.2.1); have HS5_ := (hb.cell (World.block_lt_of_cell? _ _ (hHeld.2.2.2.2.2))).trans (hHeld.2.2.2.2.2); refine ⟨_, rfl, ?_⟩; replace HO_7 := rb HO_7 hb; replace HO_9 := rb HO_9 hb; replace BK101 := bb BK101 hb; replace BK110 := bb BK110 hb; replace BK117 := bb BK117 hb; replace BK137 := bb BK137 hb; replace BK142 := bb BK142 hb; replace HB := bs HB hb
         (try clear hb)
         (try clear hb2)
         (try clear hk)
         (try clear hi)
         refine hK.out _ _ ⟨HS0_, HS1_, HS2_, HS3_, HS4_, HS5_⟩ (fun hHeld => ?_); clear hK K; refine QY (a' := ?_) ?_ ?_
         rotate_left
         ·
          show Act.put _ (some 123) _ = _; simp only [Act.put, List.setIfInBounds_toArray, List.set_cons_zero, List.set_cons_succ, QR, QU]; rfl
         refine pU 15 124 ?_; refine pU 16 125 ?_; refine pU 17 21 ?_; refine JD (JM HT_.out (by kernel_rfl)) ?_
         try go_wp2
         replace HO_7 := Qa.mk (Kd.R_drew HO_7.out); replace HO_9 := Qa.mk (Kd.R_drew HO_9.out); replace BK101 := Qa.mk (Qh BK101.out); replace BK110 := Qa.mk (Qh BK110.out); replace BK117 := Qa.mk (Qh BK117.out); replace BK137 := Qa.mk (Qh BK137.out); replace BK142 := Qa.mk (Qh BK142.out); replace HB := Qa.mk (QM HB.out); have p147 : 0 ≤ (x23_2 : Int) := dT; have q147 : x23_2 < (t111.length : Int) := dT; obtain ⟨ad147, e147, hx147_0⟩ := Kd.at_int (Kd.R_reads' HO_9.out).2.2 x23_2 p147 q147; obtain rfl : ad143 = ad147 := (by injection e147); replace p147 := eq_true p147; replace q147 := eq_true q147; have p148 : 0 ≤ (x23_2 : Int) := dT; have q148 : x23_2 < (t102.length : Int) := dT; obtain ⟨ad148, e148, hx148_0, hx148_1, hx148_2, hx148_3, hx148_4⟩ := Zf (Kd.R_reads' HO_7.out).2.2 x23_2 p148 q148; obtain rfl : ad144 = ad148 := (by injection e148); replace p148 := eq_true p148; replace q148 := eq_true q148; have p149 : 0 ≤ (x23_2 : Int) := dT; have q149 : x23_2 < (t111.length : Int) := dT; obtain ⟨ad149, e149, hx149_0⟩ := Kd.at_int (Kd.R_reads' HO_9.out).2.2 x23_2 p149 q149; obtain rfl : ad143 = ad149 := (by injection e149); replace p149 := eq_true p149; replace q149 := eq_true q149; have p150 : 0 ≤ (x23_2 : Int) := dT; have q150 : x23_2 < (t102.length : Int) := dT; obtain ⟨ad150, e150, hx150_0, hx150_1, hx150_2, hx150_3, hx150_4⟩ := Zf (Kd.R_reads' HO_7.out).2.2 x23_2 p150 q150; obtain rfl : ad144 = ad150 := (by injection e150); replace p150 := eq_true p150; replace q150 := eq_true q150; refine JS (n := 30) (S := fun w' => w'.cell? ⟨gb142, 0, none⟩ = some (.int .i64 x143000_2) ∧ w'.cell? ⟨gb142, 1, none⟩ = some (.int .i64 x143001_2) ∧ w'.cell? (ad143.add (x23_2).toNat) = some (.int .i64 (rd t111 x23_2)) ∧ w'.cell? (ad144.add ((x23_2).toNat * 5)) = some (.int .i64 ((Qf t102 x23_2).f0.f0)) ∧ w'.cell? ⟨(ad144.add ((x23_2).toNat * 5)).block, (ad144.add ((x23_2).toNat * 5)).off + 1, none⟩ = some (.int .i64 ((Qf t102 x23_2).f0.f1)) ∧ w'.cell? ⟨(ad144.add ((x23_2).toNat * 5)).block, (ad144.add ((x23_2).toNat * 5)).off + 2, none⟩ = some (.int .i64 ((Qf t102 x23_2).f1)) ∧ w'.cell? ⟨(ad144.add ((x23_2).toNat * 5)).block, (ad144.add ((x23_2).toNat * 5)).off + 3, none⟩ = some (.int .i64 ((Qf t102 x23_2).f2)) ∧ w'.cell? ⟨(ad144.add ((x23_2).toNat * 5)).block, (ad144.add ((x23_2).toNat * 5)).off + 4, none⟩ = some (.int .i64 ((Qf t102 x23_2).f3)) ∧ w'.cell? (ad143.add (x23_2).toNat) = some (.int .i64 (rd t111 x23_2)) ∧ w'.cell? (ad144.add ((x23_2).toNat * 5)) = some (.int .i64 ((Qf t102 x23_2).f0.f0)) ∧ w'.cell? ⟨(ad144.add ((x23_2).toNat * 5)).block, (ad144.add ((x23_2).toNat * 5)).off + 1, none⟩ = some (.int .i64 ((Qf t102 x23_2).f0.f1)) ∧ w'.cell? ⟨(ad144.add ((x23_2).toNat * 5)).block, (ad144.add ((x23_2).toNat * 5)).off + 2, none⟩ = some (.int .i64 ((Qf t102 x23_2).f1)) ∧ w'.cell? ⟨(ad144.add ((x23_2).toNat * 5)).block, (ad144.add ((x23_2).toNat * 5)).off + 3, none⟩ = some (.int .i64 ((Qf t102 x23_2).f2)) ∧ w'.cell? ⟨(ad144.add ((x23_2).toNat * 5)).block, (ad144.add ((x23_2).toNat * 5)).off + 4, none⟩ = some (.int .i64 ((Qf t102 x23_2).f3))) (ds := [29]) #[false, false, false, false, false, false, false, false, false, false, false, false, false, false, false, false, false, false, false, false, false, false, false, false, false, false, false, false, false, false] (by kernel_rfl) rfl rfl ⟨cz0 BK142, cz1 BK142, hx147_0, hx148_0, hx148_1, hx148_2, hx148_3, hx148_4, hx149_0, hx150_0, hx150_1, hx150_2, hx150_3, hx150_4⟩ (fun hHeld => ?_); refine Jk Qao.tab15 Qao.bits15 (fun HT_ HW_ => ?_); generalize w74.drew = w75 at HO_7 HO_9 BK101 BK110 BK117 BK137 BK142 HB hx147_0 hx148_0 hx148_1 hx148_2 hx148_3 hx148_4 hx149_0 hx150_0 hx150_1 hx150_2 hx150_3 hx150_4 hHeld ⊢; refine pU 0 126 ?_; refine pU 2 128 ?_; refine pU 3 129 ?_; refine pU 4 130 ?_; refine pU 6 132 ?_; refine pU 7 133 ?_; refine pU 8 134 ?_; refine pU 9 135 ?_; refine pU 10 136 ?_; refine pU 14 140 ?_; refine pU 16 142 ?_; refine pU 17 143 ?_; refine pU 18 144 ?_; refine pU 20 146 ?_; refine pU 21 147 ?_; refine pU 22 148 ?_; refine pU 23 149 ?_; refine pU 24 150 ?_; refine tK 1 127 hHeld ?_; refine tK 5 131 hHeld ?_; refine tK 11 137 hHeld ?_; refine pU 12 138 ?_; refine pU 13 139 ?_; refine tK 15 141 hHeld ?_; refine tK 19 145 hHeld ?_; refine tK 25 151 hHeld ?_; refine pU 26 152 ?_; refine pU 27 153 ?_; refine pU 28 154 ?_; refine last_ (i := 29) (N := none) #[true, true, true, true, true, true, true, true, true, true, true, true, true, true, true, true, true, true, true, true, true, true, true, true, true, true, true, true, true, true] rfl rfl (X9 HT_.out (by kernel_rfl)) (by decide) (fun K hK => ?_); have hs76 : w75.cell? ⟨gb142, 0, none⟩ = some (.int .i64 x143000_2) := (Qb BK142.out 0).trans rfl; have hfs76 := Qq BK142.out 0; have hns76_0 := NB101_142.out; have hns76_1 := NB110_142.out; have hns76_2 := NB117_142.out; have hns76_3 := NB137_142.out; have hms76_0 := NB142_101.out; have hms76_1 := NB142_110.out; have hms76_2 := NB142_117.out; have hms76_3 := NB142_137.out; have hs77 : w75.cell? ⟨gb142, 1, none⟩ = some (.int .i64 x143001_2) := (Qb BK142.out 1).trans rfl; have hfs77 := Qq BK142.out 1; have hns77_0 := NB101_142.out; have hns77_1 := NB110_142.out; have hns77_2 := NB117_142.out; have hns77_3 := NB137_142.out; have hms77_0 := NB142_101.out; have hms77_1 := NB142_110.out; have hms77_2 := NB142_117.out; have hms77_3 := NB142_137.out; refine Z7 (w1 := ?_) (by rfl) rfl ?_ ?_
         rotate_left
         ·
          go_simp
          rfl
         refine hK.out _ _ ?_; clear hK K; refine JD (JM HT_.out (by kernel_rfl)) ?_
         try go_wp2
         go_roundg k2
         case measure => have := HJ12.out; have := HK2.out; omega
         case rel => exact ⟨(wrap64 (x21_2 + (wrap64 ((rd t111 x23_2) * t146)))), (wrap64 (x23_2 + 1)), (wrap64 (x143000_2 + (wrap64 ((rd t111 x23_2) * ((Qf t102 x23_2).f0.f0))))), (wrap64 (x143001_2 + (wrap64 ((rd t111 x23_2) * ((Qf t102 x23_2).f0.f1))))), eS, eS, H', ⟨by have := HJ12.out; have := HK2.out; omega⟩, ⟨by (with_reducible repeat (first | apply Kd.R_alloc | apply Kd.R_drewN | apply Kd.R_drew)); exact Kd.R_mono (Rf2 (g := gb142) (Kd.R_types HO_7.out BK142.out (by decide))) (fun _ hk => trivial)⟩, ⟨by (with_reducible repeat (first | apply Kd.R_alloc | apply Kd.R_drewN | apply Kd.R_drew)); exact Kd.R_mono (Rf2 (g := gb142) (Kd.R_types HO_9.out BK142.out (by decide))) (fun _ hk => trivial)⟩, ⟨pF BK101⟩, ⟨pF BK110⟩, ⟨pF BK117⟩, ⟨pF BK137⟩, ⟨by refine pB ?_; refine Qg (cs := #[.int .i64 (wrap64 (x143000_2 + (wrap64 ((rd t111 x23_2) * ((Qf t102 x23_2).f0.f0))))), .int .i64 x143001_2]) ?_ 1 _ rfl; refine pB ?_; refine Qg (cs := #[.int .i64 x143000_2, .int .i64 x143001_2]) ?_ 0 _ rfl; (with_reducible repeat (first | refine Qt ?_ _ | refine Qh ?_ | refine Qap ?_ _)); exact BK142.out⟩, ⟨pE HB⟩⟩
        ·
         rw [if_neg c70] at H; exact absurd H (by simp)
       ·
        rw [if_neg c69] at H; exact absurd H (by simp)
      ·
       rw [if_neg c68] at H; have c68b0 : decide (x23_2 < (t102.length : Int)) = false := decide_eq_false c68; clear c68; have HC78 := Qa.mk H; clear H; go_upto_region 16 with (fail)
       go_cut [212] (fun v212 wc => ∃ (kq : Nat) (x212_77 : Bool), v212 = .bool x212_77 ∧ Qa (Qao.j2 kq t102 t111 t126 x212_77 t105 t106 t107 t108 t109 t134 t135 = some r) ∧ Qa (kq ≤ k2) ∧ Qa (Kd.R k100 100 wc w.heap.size (fun _ => True) (.slice Ao20 t102.length co20) t102) ∧ Qa (Kd.R (Kd.int .i64) 3 wc w.heap.size (fun _ => True) (.slice Ao31 t111.length co31) t111) ∧ Qa (wc.heap[gb101]? = some (.cells #[(.slice A0_0 l0_0.length c0_0), .int .u8 a0_1, .int .u8 a0_2, .int .u8 a0_3, .int .u8 a0_4, .int .u8 a0_5] 91 (0, 0))) ∧ Qa (wc.heap[gb110]? = some (.cells #[.int .i64 t105, .int .i64 t106, .int .i64 t107, .int .i64 t108, .int .i64 t109] 26 (0, 0))) ∧ Qa (wc.heap[gb117]? = some (.cells #[.int .i64 t114, .int .i64 t115] 24 (0, 0))) ∧ Qa (wc.heap[gb137]? = some (.cells #[.int .i64 t134, .int .i64 t135] 24 (0, 0))) ∧ Qa (wc.heap[gb142]? = some (.cells #[.int .i64 x143000_2, .int .i64 x143001_2] 98 (0, 0))) ∧ Qa (Below w.heap.size w wc))
       case first =>
        have H := HC78.out; clear HC78; by_cases c79 : gr9 < t114
        ·
         rw [if_pos c79] at H; have c79b0 : decide (gr9 < t114) = true := decide_eq_true c79; clear c79
         (first | rw [c79b0] | (simp only [QR, QU]; rw [c79b0]) | skip)
         exact (Qao.dead_j2 _ _ _ _ _ _ _ _ _ _ _ _ H HRT.out).elim
        ·
         rw [if_neg c79] at H; have c79b0 : decide (gr9 < t114) = false := decide_eq_false c79; clear c79
         (first | rw [c79b0] | (simp only [QR, QU]; rw [c79b0]) | skip)
         by_cases c80 : gr9 > t115
         ·
          rw [if_pos c80] at H; have c80b0 : decide (t115 < gr9) = true := decide_eq_true c80; clear c80; exact (Qao.dead_j2 _ _ _ _ _ _ _ _ _ _ _ _ H HRT.out).elim
         ·
          rw [if_neg c80] at H; have c80b0 : decide (t115 < gr9) = false := decide_eq_false c80; clear c80; by_cases c81 : (wrap64 (x21_2 - gr9)) < t134
          ·
           rw [if_pos c81] at H; have c81b0 : decide ((wrap64 (x21_2 - gr9)) < t134) = true := decide_eq_true c81; clear c81; exact (Qao.dead_j2 _ _ _ _ _ _ _ _ _ _ _ _ H HRT.out).elim
          ·
           rw [if_neg c81] at H; have c81b0 : decide ((wrap64 (x21_2 - gr9)) < t134) = false := decide_eq_false c81; clear c81; by_cases c82 : (wrap64 (x21_2 - gr9)) > t135
           ·
            rw [if_pos c82] at H; have c82b0 : decide (t135 < (wrap64 (x21_2 - gr9))) = true := decide_eq_true c82; clear c82; exact (Qao.dead_j2 _ _ _ _ _ _ _ _ _ _ _ _ H HRT.out).elim
           ·
            rw [if_neg c82] at H; have c82b0 : decide (t135 < (wrap64 (x21_2 - gr9))) = false := decide_eq_false c82; clear c82; by_cases c83 : t124 = true
            ·
             subst c83; rw [if_pos rfl] at H; by_cases c84 : x21_2 < gr9
             ·
              rw [if_pos c84] at H; have c84b0 : decide (x21_2 < gr9) = true := decide_eq_true c84; clear c84; exact (Qao.dead_j2 _ _ _ _ _ _ _ _ _ _ _ _ H HRT.out).elim
             ·
              rw [if_neg c84] at H; have c84b0 : decide (x21_2 < gr9) = false := decide_eq_false c84; clear c84; by_cases c85 : x21_2 ≥ gr9
              ·
               rw [if_pos c85] at H; have c85b0 : decide (gr9 ≤ x21_2) = true := decide_eq_true c85; clear c85; by_cases c86 : t125 = true
               ·
                subst c86; rw [if_pos rfl] at H; obtain ⟨⟨t151, t152⟩, A87, H⟩ := bi H; have H' := Qa.mk H; clear H
                as_aux_lemma =>
                try go_wp2
                replace HO_7 := Qa.mk (Kd.R_drew HO_7.out); replace HO_9 := Qa.mk (Kd.R_drew HO_9.out); replace BK101 := Qa.mk (Qh BK101.out); replace BK110 := Qa.mk (Qh BK110.out); replace BK117 := Qa.mk (Qh BK117.out); replace BK137 := Qa.mk (Qh BK137.out); replace BK142 := Qa.mk (Qh BK142.out); replace HB := Qa.mk (QM HB.out); refine JS (n := 58) (S := fun w' => w'.cell? ⟨gb117, 0, none⟩ = some (.int .i64 t114) ∧ w'.cell? ⟨gb117, 1, none⟩ = some (.int .i64 t115) ∧ w'.cell? ⟨gb137, 0, none⟩ = some (.int .i64 t134) ∧ w'.cell? ⟨gb137, 1, none⟩ = some (.int .i64 t135) ∧ w'.cell? ⟨gb142, 0, none⟩ = some (.int .i64 x143000_2) ∧ w'.cell? ⟨gb142, 1, none⟩ = some (.int .i64 x143001_2)) (ds := []) #[false, false, false, false, false, false, false, false, false, false, false, false, false, false, false, false, false, false, false, false, false, false, false, false, false, false, false, false, false, false, false, false, false, false, false, false, false, false, false, false, false, false, false, false, false, false, false, false, false, false, false, false, false, false, false, false, false, false] (by kernel_rfl) rfl rfl ⟨cz0 BK117, cz1 BK117, cz0 BK137, cz1 BK137, cz0 BK142, cz1 BK142⟩ (fun hHeld => ?_); refine Jk Qao.tab16 Qao.bits16 (fun HT_ HW_ => ?_); generalize wr.drew = w88 at HO_7 HO_9 BK101 BK110 BK117 BK137 BK142 HB hHeld ⊢; refine pU 0 155 ?_; refine pU 1 156 ?_; refine tK 2 157 hHeld ?_; refine pU 3 158 ?_; refine pU 4 159 ?_; refine pU 5 160 ?_; refine pU 6 161 ?_; refine tK 7 162 hHeld ?_; refine pU 8 163 ?_; refine pU 9 164 ?_; refine pU 10 165 ?_; refine pU 11 166 ?_; refine pU 12 167 ?_; refine pU 13 168 ?_; refine pU 14 169 ?_; refine tK 15 170 hHeld ?_; refine pU 16 171 ?_; refine pU 17 172 ?_; refine pU 18 173 ?_; refine pU 19 174 ?_; refine pU 20 175 ?_; refine pU 21 176 ?_; refine pU 22 177 ?_; refine tK 23 178 hHeld ?_; refine pU 24 179 ?_; refine pU 25 180 ?_; refine pU 26 181 ?_; refine pU 27 182 ?_; refine pU 28 183 ?_; refine pU 29 184 ?_; refine pU 30 185 ?_; refine pU 31 186 ?_; refine pU 32 187 ?_; refine pU 33 188 ?_; refine pU 34 189 ?_; refine pU 35 190 ?_; refine pU 36 191 ?_; refine pU 37 192 ?_; refine pU 38 193 ?_; refine pU 39 194 ?_; refine pU 40 195 ?_; refine pU 41 196 ?_; refine pU 42 197 ?_; refine pU 43 198 ?_; refine pU 45 200 ?_; refine pU 47 202 ?_; refine pU 50 205 ?_; refine pU 52 207 ?_; refine tK 44 199 hHeld ?_; refine tK 46 201 hHeld ?_; refine tK 48 203 hHeld ?_; refine pU 49 204 ?_; refine tK 51 206 hHeld ?_; refine tK 53 208 hHeld ?_; refine pU 54 209 ?_; refine on 55 (fun K hK => ?_); refine gO Tryz.func58 #[.int .i64 (wrap64 (x143000_2 - t115)), .int .i64 (wrap64 (x143001_2 - t114))] ?_
                with_reducible refine (QC.calls (wrap64 (x143000_2 - t115)) (wrap64 (x143001_2 - t114)) t151 t152 _ A87.out).mono ?_
                rintro e w89 ⟨rfl, hb⟩; refine ⟨_, rfl, ?_⟩; replace HO_7 := rb HO_7 hb; replace HO_9 := rb HO_9 hb; replace BK101 := bb BK101 hb; replace BK110 := bb BK110 hb; replace BK117 := bb BK117 hb; replace BK137 := bb BK137 hb; replace BK142 := bb BK142 hb; replace HB := bs HB hb
                (try clear hb)
                (try clear hb2)
                (try clear hk)
                (try clear hi)
                refine hK.out _ _ ⟨cz0 BK117, cz1 BK117, cz0 BK137, cz1 BK137, cz0 BK142, cz1 BK142⟩ (fun hHeld => ?_); clear hK K; refine QY (a' := ?_) ?_ ?_
                rotate_left
                ·
                 show Act.put _ (some 210) _ = _; simp only [Act.put, List.setIfInBounds_toArray, List.set_cons_zero, List.set_cons_succ, QR, QU]; rfl
                refine pU 56 211 ?_; refine pU 57 212 ?_; refine JD (JM HT_.out (by kernel_rfl)) ?_
                try go_wp2
                go_meet
                case rel => exact ⟨_, ((!(t134 == t151) || (!(t135 == t152)))), eS, H', ⟨by have := HJ12.out; have := HK2.out; first | omega | exact Nat.le_refl _⟩, ⟨by (with_reducible repeat (first | apply Kd.R_alloc | apply Kd.R_drewN | apply Kd.R_drew)); exact HO_7.out⟩, ⟨by (with_reducible repeat (first | apply Kd.R_alloc | apply Kd.R_drewN | apply Kd.R_drew)); exact HO_9.out⟩, ⟨pB BK101.out⟩, ⟨pB BK110.out⟩, ⟨pB BK117.out⟩, ⟨pB BK137.out⟩, ⟨pB BK142.out⟩, ⟨pE HB⟩⟩
               ·
                replace c86 := Bool.eq_false_iff.mpr c86; subst c86; rw [if_neg (show ¬ (false = true) by decide)] at H; exact (Qao.dead_j2 _ _ _ _ _ _ _ _ _ _ _ _ H HRT.out).elim
              ·
               rw [if_neg c85] at H; have c85b0 : decide (gr9 ≤ x21_2) = false := decide_eq_false c85; clear c85; obtain ⟨⟨t153, t154⟩, A90, H⟩ := bi H; have H' := Qa.mk H; clear H
               as_aux_lemma =>
               try go_wp2
               replace HO_7 := Qa.mk (Kd.R_drew HO_7.out); replace HO_9 := Qa.mk (Kd.R_drew HO_9.out); replace BK101 := Qa.mk (Qh BK101.out); replace BK110 := Qa.mk (Qh BK110.out); replace BK117 := Qa.mk (Qh BK117.out); replace BK137 := Qa.mk (Qh BK137.out); replace BK142 := Qa.mk (Qh BK142.out); replace HB := Qa.mk (QM HB.out); refine JS (n := 58) (S := fun w' => w'.cell? ⟨gb117, 0, none⟩ = some (.int .i64 t114) ∧ w'.cell? ⟨gb117, 1, none⟩ = some (.int .i64 t115) ∧ w'.cell? ⟨gb137, 0, none⟩ = some (.int .i64 t134) ∧ w'.cell? ⟨gb137, 1, none⟩ = some (.int .i64 t135) ∧ w'.cell? ⟨gb142, 0, none⟩ = some (.int .i64 x143000_2) ∧ w'.cell? ⟨gb142, 1, none⟩ = some (.int .i64 x143001_2)) (ds := []) #[false, false, false, false, false, false, false, false, false, false, false, false, false, false, false, false, false, false, false, false, false, false, false, false, false, false, false, false, false, false, false, false, false, false, false, false, false, false, false, false, false, false, false, false, false, false, false, false, false, false, false, false, false, false, false, false, false, false] (by kernel_rfl) rfl rfl ⟨cz0 BK117, cz1 BK117, cz0 BK137, cz1 BK137, cz0 BK142, cz1 BK142⟩ (fun hHeld => ?_); refine Jk Qao.tab16 Qao.bits16 (fun HT_ HW_ => ?_); generalize wr.drew = w91 at HO_7 HO_9 BK101 BK110 BK117 BK137 BK142 HB hHeld ⊢; refine pU 0 155 ?_; refine pU 1 156 ?_; refine tK 2 157 hHeld ?_; refine pU 3 158 ?_; refine pU 4 159 ?_; refine pU 5 160 ?_; refine pU 6 161 ?_; refine tK 7 162 hHeld ?_; refine pU 8 163 ?_; refine pU 9 164 ?_; refine pU 10 165 ?_; refine pU 11 166 ?_; refine pU 12 167 ?_; refine pU 13 168 ?_; refine pU 14 169 ?_; refine tK 15 170 hHeld ?_; refine pU 16 171 ?_; refine pU 17 172 ?_; refine pU 18 173 ?_; refine pU 19 174 ?_; refine pU 20 175 ?_; refine pU 21 176 ?_; refine pU 22 177 ?_; refine tK 23 178 hHeld ?_; refine pU 24 179 ?_; refine pU 25 180 ?_; refine pU 26 181 ?_; refine pU 27 182 ?_; refine pU 28 183 ?_; refine pU 29 184 ?_; refine pU 30 185 ?_; refine pU 31 186 ?_; refine pU 32 187 ?_; refine pU 33 188 ?_; refine pU 34 189 ?_; refine pU 35 190 ?_; refine pU 36 191 ?_; refine pU 37 192 ?_; refine pU 38 193 ?_; refine pD 39 194 ?_; refine pD 40 195 ?_; refine pU 41 196 ?_; refine pU 42 197 ?_; refine pU 43 198 ?_; refine pU 45 200 ?_; refine pU 47 202 ?_; refine pU 50 205 ?_; refine pU 52 207 ?_; refine tK 44 199 hHeld ?_; refine tK 46 201 hHeld ?_; refine tK 48 203 hHeld ?_; refine pU 49 204 ?_; refine tK 51 206 hHeld ?_; refine tK 53 208 hHeld ?_; refine pU 54 209 ?_; refine on 55 (fun K hK => ?_); refine gO Tryz.func58 #[.int .i64 (wrap64 (x143000_2 - t115)), .int .i64 (wrap64 (x143001_2 - t114))] ?_
               with_reducible refine (QC.calls (wrap64 (x143000_2 - t115)) (wrap64 (x143001_2 - t114)) t153 t154 _ A90.out).mono ?_
               rintro e w92 ⟨rfl, hb⟩; refine ⟨_, rfl, ?_⟩; replace HO_7 := rb HO_7 hb; replace HO_9 := rb HO_9 hb; replace BK101 := bb BK101 hb; replace BK110 := bb BK110 hb; replace BK117 := bb BK117 hb; replace BK137 := bb BK137 hb; replace BK142 := bb BK142 hb; replace HB := bs HB hb
               (try clear hb)
               (try clear hb2)
               (try clear hk)
               (try clear hi)
               refine hK.out _ _ ⟨cz0 BK117, cz1 BK117, cz0 BK137, cz1 BK137, cz0 BK142, cz1 BK142⟩ (fun hHeld => ?_); clear hK K; refine QY (a' := ?_) ?_ ?_
               rotate_left
               ·
                show Act.put _ (some 210) _ = _; simp only [Act.put, List.setIfInBounds_toArray, List.set_cons_zero, List.set_cons_succ, QR, QU]; rfl
               refine pU 56 211 ?_; refine pU 57 212 ?_; refine JD (JM HT_.out (by kernel_rfl)) ?_
               try go_wp2
               go_meet
               case rel => exact ⟨_, ((!(t134 == t153) || (!(t135 == t154)))), eS, H', ⟨by have := HJ12.out; have := HK2.out; first | omega | exact Nat.le_refl _⟩, ⟨by (with_reducible repeat (first | apply Kd.R_alloc | apply Kd.R_drewN | apply Kd.R_drew)); exact HO_7.out⟩, ⟨by (with_reducible repeat (first | apply Kd.R_alloc | apply Kd.R_drewN | apply Kd.R_drew)); exact HO_9.out⟩, ⟨pB BK101.out⟩, ⟨pB BK110.out⟩, ⟨pB BK117.out⟩, ⟨pB BK137.out⟩, ⟨pB BK142.out⟩, ⟨pE HB⟩⟩
            ·
             replace c83 := Bool.eq_false_iff.mpr c83; subst c83; rw [if_neg (show ¬ (false = true) by decide)] at H; by_cases c93 : x21_2 ≥ gr9
             ·
              rw [if_pos c93] at H; have c93b0 : decide (gr9 ≤ x21_2) = true := decide_eq_true c93; clear c93; by_cases c94 : t125 = true
              ·
               subst c94; rw [if_pos rfl] at H; obtain ⟨⟨t155, t156⟩, A95, H⟩ := bi H; have H' := Qa.mk H; clear H
               as_aux_lemma =>
               try go_wp2
               replace HO_7 := Qa.mk (Kd.R_drew HO_7.out); replace HO_9 := Qa.mk (Kd.R_drew HO_9.out); replace BK101 := Qa.mk (Qh BK101.out); replace BK110 := Qa.mk (Qh BK110.out); replace BK117 := Qa.mk (Qh BK117.out); replace BK137 := Qa.mk (Qh BK137.out); replace BK142 := Qa.mk (Qh BK142.out); replace HB := Qa.mk (QM HB.out); refine JS (n := 58) (S := fun w' => w'.cell? ⟨gb117, 0, none⟩ = some (.int .i64 t114) ∧ w'.cell? ⟨gb117, 1, none⟩ = some (.int .i64 t115) ∧ w'.cell? ⟨gb137, 0, none⟩ = some (.int .i64 t134) ∧ w'.cell? ⟨gb137, 1, none⟩ = some (.int .i64 t135) ∧ w'.cell? ⟨gb142, 0, none⟩ = some (.int .i64 x143000_2) ∧ w'.cell? ⟨gb142, 1, none⟩ = some (.int .i64 x143001_2)) (ds := []) #[false, false, false, false, false, false, false, false, false, false, false, false, false, false, false, false, false, false, false, false, false, false, false, false, false, false, false, false, false, false, false, false, false, false, false, false, false, false, false, false, false, false, false, false, false, false, false, false, false, false, false, false, false, false, false, false, false, false] (by kernel_rfl) rfl rfl ⟨cz0 BK117, cz1 BK117, cz0 BK137, cz1 BK137, cz0 BK142, cz1 BK142⟩ (fun hHeld => ?_); refine Jk Qao.tab16 Qao.bits16 (fun HT_ HW_ => ?_); generalize wr.drew = w96 at HO_7 HO_9 BK101 BK110 BK117 BK137 BK142 HB hHeld ⊢; refine pU 0 155 ?_; refine pU 1 156 ?_; refine tK 2 157 hHeld ?_; refine pU 3 158 ?_; refine pU 4 159 ?_; refine pU 5 160 ?_; refine pU 6 161 ?_; refine tK 7 162 hHeld ?_; refine pU 8 163 ?_; refine pU 9 164 ?_; refine pU 10 165 ?_; refine pU 11 166 ?_; refine pU 12 167 ?_; refine pU 13 168 ?_; refine pU 14 169 ?_; refine tK 15 170 hHeld ?_; refine pU 16 171 ?_; refine pU 17 172 ?_; refine pU 18 173 ?_; refine pU 19 174 ?_; refine pU 20 175 ?_; refine pU 21 176 ?_; refine pU 22 177 ?_; refine tK 23 178 hHeld ?_; refine pU 24 179 ?_; refine pU 25 180 ?_; refine pU 26 181 ?_; refine pU 27 182 ?_; refine pU 28 183 ?_; refine pD 29 184 ?_; refine pD 30 185 ?_; refine pD 31 186 ?_; refine pU 32 187 ?_; refine pU 33 188 ?_; refine pU 34 189 ?_; refine pU 35 190 ?_; refine pU 36 191 ?_; refine pU 37 192 ?_; refine pU 38 193 ?_; refine pU 39 194 ?_; refine pU 40 195 ?_; refine pU 41 196 ?_; refine pU 42 197 ?_; refine pU 43 198 ?_; refine pU 45 200 ?_; refine pU 47 202 ?_; refine pU 50 205 ?_; refine pU 52 207 ?_; refine tK 44 199 hHeld ?_; refine tK 46 201 hHeld ?_; refine tK 48 203 hHeld ?_; refine pU 49 204 ?_; refine tK 51 206 hHeld ?_; refine tK 53 208 hHeld ?_; refine pU 54 209 ?_; refine on 55 (fun K hK => ?_); refine gO Tryz.func58 #[.int .i64 (wrap64 (x143000_2 - t115)), .int .i64 (wrap64 (x143001_2 - t114))] ?_
               with_reducible refine (QC.calls (wrap64 (x143000_2 - t115)) (wrap64 (x143001_2 - t114)) t155 t156 _ A95.out).mono ?_
               rintro e w97 ⟨rfl, hb⟩; refine ⟨_, rfl, ?_⟩; replace HO_7 := rb HO_7 hb; replace HO_9 := rb HO_9 hb; replace BK101 := bb BK101 hb; replace BK110 := bb BK110 hb; replace BK117 := bb BK117 hb; replace BK137 := bb BK137 hb; replace BK142 := bb BK142 hb; replace HB := bs HB hb
               (try clear hb)
               (try clear hb2)
               (try clear hk)
               (try clear hi)
               refine hK.out _ _ ⟨cz0 BK117, cz1 BK117, cz0 BK137, cz1 BK137, cz0 BK142, cz1 BK142⟩ (fun hHeld => ?_); clear hK K; refine QY (a' := ?_) ?_ ?_
               rotate_left
               ·
                show Act.put _ (some 210) _ = _; simp only [Act.put, List.setIfInBounds_toArray, List.set_cons_zero, List.set_cons_succ, QR, QU]; rfl
               refine pU 56 211 ?_; refine pU 57 212 ?_; refine JD (JM HT_.out (by kernel_rfl)) ?_
               try go_wp2
               go_meet
               case rel => exact ⟨_, ((!(t134 == t155) || (!(t135 == t156)))), eS, H', ⟨by have := HJ12.out; have := HK2.out; first | omega | exact Nat.le_refl _⟩, ⟨by (with_reducible repeat (first | apply Kd.R_alloc | apply Kd.R_drewN | apply Kd.R_drew)); exact HO_7.out⟩, ⟨by (with_reducible repeat (first | apply Kd.R_alloc | apply Kd.R_drewN | apply Kd.R_drew)); exact HO_9.out⟩, ⟨pB BK101.out⟩, ⟨pB BK110.out⟩, ⟨pB BK117.out⟩, ⟨pB BK137.out⟩, ⟨pB BK142.out⟩, ⟨pE HB⟩⟩
              ·
               replace c94 := Bool.eq_false_iff.mpr c94; subst c94; rw [if_neg (show ¬ (false = true) by decide)] at H; exact (Qao.dead_j2 _ _ _ _ _ _ _ _ _ _ _ _ H HRT.out).elim
             ·
              rw [if_neg c93] at H; have c93b0 : decide (gr9 ≤ x21_2) = false := decide_eq_false c93; clear c93; obtain ⟨⟨t157, t158⟩, A98, H⟩ := bi H; have H' := Qa.mk H; clear H
              as_aux_lemma =>
              try go_wp2
              replace HO_7 := Qa.mk (Kd.R_drew HO_7.out); replace HO_9 := Qa.mk (Kd.R_drew HO_9.out); replace BK101 := Qa.mk (Qh BK101.out); replace BK110 := Qa.mk (Qh BK110.out); replace BK117 := Qa.mk (Qh BK117.out); replace BK137 := Qa.mk (Qh BK137.out); replace BK142 := Qa.mk (Qh BK142.out); replace HB := Qa.mk (QM HB.out); refine JS (n := 58) (S := fun w' => w'.cell? ⟨gb117, 0, none⟩ = some (.int .i64 t114) ∧ w'.cell? ⟨gb117, 1, none⟩ = some (.int .i64 t115) ∧ w'.cell? ⟨gb137, 0, none⟩ = some (.int .i64 t134) ∧ w'.cell? ⟨gb137, 1, none⟩ = some (.int .i64 t135) ∧ w'.cell? ⟨gb142, 0, none⟩ = some (.int .i64 x143000_2) ∧ w'.cell? ⟨gb142, 1, none⟩ = some (.int .i64 x143001_2)) (ds := []) #[false, false, false, false, false, false, false, false, false, false, false, false, false, false, false, false, false, false, false, false, false, false, false, false, false, false, false, false, false, false, false, false, false, false, false, false, false, false, false, false, false, false, false, false, false, false, false, false, false, false, false, false, false, false, false, false, false, false] (by kernel_rfl) rfl rfl ⟨cz0 BK117, cz1 BK117, cz0 BK137, cz1 BK137, cz0 BK142, cz1 BK142⟩ (fun hHeld => ?_); refine Jk Qao.tab16 Qao.bits16 (fun HT_ HW_ => ?_); generalize wr.drew = w99 at HO_7 HO_9 BK101 BK110 BK117 BK137 BK142 HB hHeld ⊢; refine pU 0 155 ?_; refine pU 1 156 ?_; refine tK 2 157 hHeld ?_; refine pU 3 158 ?_; refine pU 4 159 ?_; refine pU 5 160 ?_; refine pU 6 161 ?_; refine tK 7 162 hHeld ?_; refine pU 8 163 ?_; refine pU 9 164 ?_; refine pU 10 165 ?_; refine pU 11 166 ?_; refine pU 12 167 ?_; refine pU 13 168 ?_; refine pU 14 169 ?_; refine tK 15 170 hHeld ?_; refine pU 16 171 ?_; refine pU 17 172 ?_; refine pU 18 173 ?_; refine pU 19 174 ?_; refine pU 20 175 ?_; refine pU 21 176 ?_; refine pU 22 177 ?_; refine tK 23 178 hHeld ?_; refine pU 24 179 ?_; refine pU 25 180 ?_; refine pU 26 181 ?_; refine pU 27 182 ?_; refine pU 28 183 ?_; refine pD 29 184 ?_; refine pD 30 185 ?_; refine pD 31 186 ?_; refine pU 32 187 ?_; refine pU 33 188 ?_; refine pU 34 189 ?_; refine pU 35 190 ?_; refine pU 36 191 ?_; refine pU 37 192 ?_; refine pU 38 193 ?_; refine pD 39 194 ?_; refine pD 40 195 ?_; refine pU 41 196 ?_; refine pU 42 197 ?_; refine pU 43 198 ?_; refine pU 45 200 ?_; refine pU 47 202 ?_; refine pU 50 205 ?_; refine pU 52 207 ?_; refine tK 44 199 hHeld ?_; refine tK 46 201 hHeld ?_; refine tK 48 203 hHeld ?_; refine pU 49 204 ?_; refine tK 51 206 hHeld ?_; refine tK 53 208 hHeld ?_; refine pU 54 209 ?_; refine on 55 (fun K hK => ?_); refine gO Tryz.func58 #[.int .i64 (wrap64 (x143000_2 - t115)), .int .i64 (wrap64 (x143001_2 - t114))] ?_
              with_reducible refine (QC.calls (wrap64 (x143000_2 - t115)) (wrap64 (x143001_2 - t114)) t157 t158 _ A98.out).mono ?_
              rintro e w100 ⟨rfl, hb⟩; refine ⟨_, rfl, ?_⟩; replace HO_7 := rb HO_7 hb; replace HO_9 := rb HO_9 hb; replace BK101 := bb BK101 hb; replace BK110 := bb BK110 hb; replace BK117 := bb BK117 hb; replace BK137 := bb BK137 hb; replace BK142 := bb BK142 hb; replace HB := bs HB hb
              (try clear hb)
              (try clear hb2)
              (try clear hk)
              (try clear hi)
              refine hK.out _ _ ⟨cz0 BK117, cz1 BK117, cz0 BK137, cz1 BK137, cz0 BK142, cz1 BK142⟩ (fun hHeld => ?_); clear hK K; refine QY (a' := ?_) ?_ ?_
              rotate_left
              ·
               show Act.put _ (some 210) _ = _; simp only [Act.put, List.setIfInBounds_toArray, List.set_cons_zero, List.set_cons_succ, QR, QU]; rfl
              refine pU 56 211 ?_; refine pU 57 212 ?_; refine JD (JM HT_.out (by kernel_rfl)) ?_
              try go_wp2
              go_meet
              case rel => exact ⟨_, ((!(t134 == t157) || (!(t135 == t158)))), eS, H', ⟨by have := HJ12.out; have := HK2.out; first | omega | exact Nat.le_refl _⟩, ⟨by (with_reducible repeat (first | apply Kd.R_alloc | apply Kd.R_drewN | apply Kd.R_drew)); exact HO_7.out⟩, ⟨by (with_reducible repeat (first | apply Kd.R_alloc | apply Kd.R_drewN | apply Kd.R_drew)); exact HO_9.out⟩, ⟨pB BK101.out⟩, ⟨pB BK110.out⟩, ⟨pB BK117.out⟩, ⟨pB BK137.out⟩, ⟨pB BK142.out⟩, ⟨pE HB⟩⟩
       case rest =>
        as_aux_lemma =>
        clear HC78; obtain ⟨kq, x212_77, rfl, HA, HJ77, HO_7, HO_9, BK101, BK110, BK117, BK137, BK142, HB⟩ := hcut
        cases kq with
        | zero => exact absurd HA.out (by simp [Qao.j2])
        | succ kj77 =>
         have H := HA.out; clear HA; simp only [Qao.j2] at H; by_cases c101 : x212_77 = true
         ·
          subst c101; rw [if_pos rfl] at H; exact absurd ((Option.some.inj H).trans HRT.out) (by simp)
         ·
          replace c101 := Bool.eq_false_iff.mpr c101; subst c101; rw [if_neg (show ¬ (false = true) by decide)] at H; obtain ⟨⟨t159, t160⟩, A102, H⟩ := bi H; by_cases c103 : (t126 != (decide (t160 > t109))) = true
          ·
           rw [if_pos c103] at H; have c103b0 : (t126 != (decide (t160 > t109))) = true := c103
           (try (have c103b1 : decide (t126 = (decide (t160 > t109))) = false := by simpa using c103))
           (try (have c103b2 : (t126 == (decide (t160 > t109))) = false := by simpa using c103))
           (try (have c103b3 : ¬ (t126 = (decide (t160 > t109))) := by simpa using c103))
           clear c103; exact absurd ((Option.some.inj H).trans HRT.out) (by simp)
          ·
           rw [if_neg c103] at H; have c103b0 : (t126 != (decide (t160 > t109))) = false := by simpa using c103
           (try (have c103b1 : decide (t126 = (decide (t160 > t109))) = true := by simpa using c103))
           (try (have c103b2 : (t126 == (decide (t160 > t109))) = true := by simpa using c103))
           clear c103; have H' := Qa.mk H; clear H; go_wp2_with (first | ((with_reducible refine gc 59 rfl ?_); refine gL 216 Tryz.func59 #[.slice Ao20 t102.length co20, .slice Ao31 t111.length co31] ?_; (with_reducible refine (Qau.calls kj77 _ _ t102 _ _ t111 t159 t160 _ ?side1 ?side2 ?side3 ?side4 A102.out).mono ?_); (case side1 => exact pC (Kd.R_reads' HO_7.out).2.2); (case side2 => exact (Kd.R_reads' HO_7.out).2.1); (case side3 => exact pC (Kd.R_reads' HO_9.out).2.2); (case side4 => exact (Kd.R_reads' HO_9.out).2.1); rintro e w' ⟨rfl, ⟨nd, rfl⟩⟩; refine ⟨_, rfl, ?_⟩; have hnb104 := NB110_101.out; have hnc104 := NB101_110.out; have hnb105 := NB110_117.out; have hnc105 := NB117_110.out; have hnb106 := NB110_137.out; have hnc106 := NB137_110.out; have hnb107 := NB110_142.out; have hnc107 := NB142_110.out; obtain ⟨hcz108_0, hcz108_1, hcz108_2, hcz108_3, hcz108_4, hfz108_0, hfz108_1, hfz108_2, hfz108_3, hfz108_4⟩ := cf5 BK110))
           go_loopg [26] kj77 (fun kq v26 w' => ∃ (x9_4 : List Int) (x26_4 : Int), v26 = .int .i64 x26_4 ∧ Qa (Qao.l1 kq t102 x9_4 x26_4 t105 t106 t107 t108 t109 t134 t135 = some r) ∧ Qa (kq ≤ kj77) ∧ Qa (Kd.R k100 100 w' w.heap.size (fun _ => True) (.slice Ao20 t102.length co20) t102) ∧ Qa (Kd.R (Kd.int .i64) 3 w' w.heap.size (fun _ => True) (.slice Ao31 t111.length co31) x9_4) ∧ Qa (w'.heap[gb101]? = some (.cells #[(.slice A0_0 l0_0.length c0_0), .int .u8 a0_1, .int .u8 a0_2, .int .u8 a0_3, .int .u8 a0_4, .int .u8 a0_5] 91 (0, 0))) ∧ Qa (w'.heap[gb110]? = some (.cells #[.int .i64 t105, .int .i64 t106, .int .i64 t107, .int .i64 t108, .int .i64 t109] 26 (0, 0))) ∧ Qa (w'.heap[gb117]? = some (.cells #[.int .i64 t114, .int .i64 t115] 24 (0, 0))) ∧ Qa (w'.heap[gb137]? = some (.cells #[.int .i64 t134, .int .i64 t135] 24 (0, 0))) ∧ Qa (w'.heap[gb142]? = some (.cells #[.int .i64 x143000_2, .int .i64 x143001_2] 98 (0, 0))) ∧ Qa (Below w.heap.size w w'))
           case atStart => exact ⟨(t111), (0), eS, H', ⟨Nat.le_refl _⟩, ⟨by (with_reducible repeat (first | apply Kd.R_alloc | apply Kd.R_drewN | apply Kd.R_drew)); exact HO_7.out⟩, ⟨by (with_reducible repeat (first | apply Kd.R_alloc | apply Kd.R_drewN | apply Kd.R_drew)); exact HO_9.out⟩, ⟨pB BK101.out⟩, ⟨pB BK110.out⟩, ⟨pB BK117.out⟩, ⟨pB BK137.out⟩, ⟨pB BK142.out⟩, ⟨pE HB⟩⟩
           case round =>
            as_aux_lemma =>
            clear H'
            (try clear c1); (try clear c101); (try clear c103b0); (try clear c103b1); (try clear c103b2); (try clear hcz108_0); (try clear hcz108_1); (try clear hcz108_2); (try clear hcz108_3); (try clear hcz108_4); (try clear hfz108_0); (try clear hfz108_1); (try clear hfz108_2); (try clear hfz108_3); (try clear hfz108_4)
            obtain ⟨x9_4, x26_4, rfl, HA, HK4, HO_7, HO_9, BK101, BK110, BK117, BK137, BK142, HB⟩ := hrel; have hl9_4 := (Kd.R_reads' HO_9.out).1; rw [hl9_4] at HO_9
            (try simp only [hl9_4])
            (try simp only [hl9_4] at BK101)
            (try simp only [hl9_4] at BK110)
            (try simp only [hl9_4] at BK117)
            (try simp only [hl9_4] at BK137)
            (try simp only [hl9_4] at BK142)
            (try simp only [hl9_4] at HO_7)
            cases gk with
            | zero => exact absurd HA.out (by simp [Qao.l1])
            | succ k4 =>
             have H := HA.out; clear HA; simp only [Qao.l1] at H; by_cases c109 : x26_4 < (t102.length : Int)
             ·
              rw [if_pos c109] at H; have c109b0 : decide (x26_4 < (t102.length : Int)) = true := decide_eq_true c109; clear c109; obtain ⟨t162, A110, H⟩ := bi H; by_cases c111 : 0 ≤ x26_4
              ·
               rw [if_pos c111] at H; have c111b0 : decide (0 ≤ x26_4) = true := decide_eq_true c111; clear c111; by_cases c112 : x26_4 < (t162.length : Int)
               ·
                rw [if_pos c112] at H; have c112b0 : decide (x26_4 < (t162.length : Int)) = true := decide_eq_true c112; clear c112; by_cases c113 : (rd t162 x26_4) < ((Qf t102 x26_4).f3)
                ·
                 rw [if_pos c113] at H; have c113b0 : decide ((rd t162 x26_4) < ((Qf t102 x26_4).f3)) = true := decide_eq_true c113; clear c113; obtain ⟨y168, hy168⟩ : ∃ y_ : List Int, y_ = (t162.set (x26_4 : Int).toNat (wrap64 ((rd t162 x26_4) + 1))) := ⟨_, rfl⟩
                 replace H : ((Qaw.f t102).bind fun t169 => ((JE.f k4 t169 t105 t106 t107 t108 t109 y168).bind fun bt172 => (if bt172.2.2 = 0 then (if bt172.1 < t134 then (some false) else (if bt172.2.1 < t135 then (some false) else (Qao.l1 k4 t102 x9_4 (wrap64 (x26_4 + 1)) t105 t106 t107 t108 t109 t134 t135))) else (some false)))) = some r := yy hy168 H; have Ny168 := Qa.mk hy168; clear hy168; obtain ⟨t169, A115, H⟩ := bi H; obtain ⟨⟨t172, t173, t174⟩, A116, H⟩ := bi H; by_cases c117 : t174 = 0
                 ·
                  rw [if_pos c117] at H; have c117b0 : (t174 == 0) = true := beq_iff_eq.mpr c117; have c117b1 : (t174 != 0) = false := bne_eq_false_iff_eq.mpr c117; clear c117; by_cases c118 : t172 < t134
                  ·
                   rw [if_pos c118] at H; have c118b0 : decide (t172 < t134) = true := decide_eq_true c118; clear c118; exact absurd ((Option.some.inj H).trans HRT.out) (by simp)
                  ·
                   rw [if_neg c118] at H; have c118b0 : decide (t172 < t134) = false := decide_eq_false c118; clear c118; by_cases c119 : t173 < t135
                   ·
                    rw [if_pos c119] at H; have c119b0 : decide (t173 < t135) = true := decide_eq_true c119; clear c119; exact absurd ((Option.some.inj H).trans HRT.out) (by simp)
                   ·
                    rw [if_neg c119] at H; have c119b0 : decide (t173 < t135) = false := decide_eq_false c119; clear c119; have H' := Qa.mk H; clear H
                    try go_wp2_with (first | ((with_reducible refine gc 55 rfl ?_); refine gL 232 Tryz.func55 #[.slice Ao31 x9_4.length co31] ?_; (with_reducible refine (Qav.calls _ _ x9_4 t162 _ ?side1 ?side2 A110.out).mono ?_); (case side1 => exact pC (Kd.R_reads' HO_9.out).2.2); (case side2 => exact (Kd.R_reads' HO_9.out).2.1); rintro e w120 ⟨v163, rfl, ho0, hb⟩; refine ⟨_, rfl, ?_⟩; replace HO_7 := rb HO_7 hb; have HO164 := Qa.mk (Kd.R_lower (Kd.R_new' ho0 (Kd.R_lt (pR HO_9.out))) (Qr (pE HB))); replace HO_9 := re HO_9 ho0 hb; replace BK101 := bb BK101 hb; replace BK110 := bb BK110 hb; replace BK117 := bb BK117 hb; replace BK137 := bb BK137 hb; replace BK142 := bb BK142 hb; replace HB := bs HB hb; clear hb ho0))
                    replace HO_7 := Qa.mk (Kd.R_drew HO_7.out); replace HO_9 := Qa.mk (Kd.R_drew HO_9.out); replace HO164 := Qa.mk (Kd.R_drew HO164.out); replace BK101 := Qa.mk (Qh BK101.out); replace BK110 := Qa.mk (Qh BK110.out); replace BK117 := Qa.mk (Qh BK117.out); replace BK137 := Qa.mk (Qh BK137.out); replace BK142 := Qa.mk (Qh BK142.out); replace HB := Qa.mk (QM HB.out); obtain ⟨Ao122, co122, eo122⟩ := Kd.R_slice HO164.out
                    (first | subst eo122 | (injection eo122 with f1_ f2_ f3_; have f4_ := f1_.symm; have f5_ := f3_.symm; clear f1_ f2_ f3_; subst f4_; subst f5_))
                    have p165 : 0 ≤ (x26_4 : Int) := dT; have q165 : x26_4 < (t162.length : Int) := dT; obtain ⟨ad165, e165, hx165_0⟩ := Kd.at_int (Kd.R_reads' HO164.out).2.2 x26_4 p165 q165
                    cases e165
                    replace p165 := eq_true p165; replace q165 := eq_true q165; have p166 : 0 ≤ (x26_4 : Int) := dT; have q166 : x26_4 < (t102.length : Int) := dT; obtain ⟨ad166, e166, hx166_0, hx166_1, hx166_2, hx166_3, hx166_4⟩ := Zf (Kd.R_reads' HO_7.out).2.2 x26_4 p166 q166
                    cases e166
                    replace p166 := eq_true p166; replace q166 := eq_true q166; refine JS (n := 10) (S := fun w' => w'.cell? (ad165.add (x26_4).toNat) = some (.int .i64 (rd t162 x26_4)) ∧ w'.cell? (ad166.add ((x26_4).toNat * 5)) = some (.int .i64 ((Qf t102 x26_4).f0.f0)) ∧ w'.cell? ⟨(ad166.add ((x26_4).toNat * 5)).block, (ad166.add ((x26_4).toNat * 5)).off + 1, none⟩ = some (.int .i64 ((Qf t102 x26_4).f0.f1)) ∧ w'.cell? ⟨(ad166.add ((x26_4).toNat * 5)).block, (ad166.add ((x26_4).toNat * 5)).off + 2, none⟩ = some (.int .i64 ((Qf t102 x26_4).f1)) ∧ w'.cell? ⟨(ad166.add ((x26_4).toNat * 5)).block, (ad166.add ((x26_4).toNat * 5)).off + 3, none⟩ = some (.int .i64 ((Qf t102 x26_4).f2)) ∧ w'.cell? ⟨(ad166.add ((x26_4).toNat * 5)).block, (ad166.add ((x26_4).toNat * 5)).off + 4, none⟩ = some (.int .i64 ((Qf t102 x26_4).f3))) (ds := []) #[false, false, false, false, false, false, false, false, false, false] (by kernel_rfl) rfl rfl ⟨hx165_0, hx166_0, hx166_1, hx166_2, hx166_3, hx166_4⟩ (fun hHeld => ?_); refine Jk Qao.tab25 Qao.bits25 (fun HT_ HW_ => ?_); generalize w120.drew = w121 at HO_7 HO_9 HO164 BK101 BK110 BK117 BK137 BK142 HB hx165_0 hx166_0 hx166_1 hx166_2 hx166_3 hx166_4 hHeld ⊢; refine pU 0 233 ?_; refine pU 1 234 ?_; refine pU 2 235 ?_; refine pU 4 237 ?_; refine pU 5 238 ?_; refine pU 6 239 ?_; refine pU 7 240 ?_; refine tK 3 236 hHeld ?_; refine tK 8 241 hHeld ?_; refine pU 9 242 ?_; refine JD (JM HT_.out (by kernel_rfl)) ?_; have p167 : 0 ≤ (x26_4 : Int) := dT; have q167 : x26_4 < (t162.length : Int) := dT; obtain ⟨ad167, e167, hx167_0⟩ := Kd.at_int (Kd.R_reads' HO164.out).2.2 x26_4 p167 q167; obtain rfl : ad165 = ad167 := (by injection e167); replace p167 := eq_true p167; replace q167 := eq_true q167; have p114 : 0 ≤ (x26_4 : Int) := dT; have q114 : (x26_4 : Int) < ((t162.length : Int) : Int) := dT; obtain ⟨go114, co114, eo114, gb114, gl114, cl114, HG114⟩ := Kd.R_form HO164.out (by omega)
                    (first | cases eo114 | (injection eo114 with ea_ en_ ec_; (first | subst ea_ | (injection ea_ with ea_; subst ea_)); subst ec_; clear en_))
                    have GB114 := Qa.mk gb114; have GG114 := Qa.mk HG114; clear gb114 gl114 HG114
                    (first | simp only [JP] at hx165_0 | skip)
                    (first | simp only [JP] at hx167_0 | skip)
                    obtain ⟨hx114_0, hf114_0⟩ := Kd.R_celln 0 HO164.out (x26_4 : Int) p114 q114; replace p114 := eq_true p114; replace q114 := eq_true q114; have n_ := Qa.mk (Kd.R_mono (ok' := (fun k_ => some k_ ≠ (.slice Ao31 x9_4.length co31 : Value).ownBlock)) HO164.out (fun k_ hk => hk.2)); clear HO164; have HO164 := n_; clear n_; obtain ⟨hy123_, hz123_⟩ := Kd.R_celln 0 HO164.out (x26_4 : Int) (dT) (dT); have HP123 := Kd.R_putg HO164.out (x26_4 : Int) (wrap64 ((rd t162 x26_4) + 1))
                    try go_wp2_with (first | ((with_reducible refine Z3 (t := 3) (p := 248) rfl ?_); refine ZX (t := 3) (p := 248) (v := ?vo_w124) (w1 := (w121.setCell ⟨go114, (x26_4 : Int).toNat, none⟩ (.int .i64 (wrap64 ((rd t162 x26_4) + 1))))) ?hg ?ho ?hn ?hr ?_; (case ho => rfl); (case hg => rfl); (case hn => rfl); (case hr => first | (go_simp; done) | (go_simp; rfl)); intro w124 hw; have hg : w121.grownBy w124 (some go114) := (by rw [hw]; exact HP123.2); have hp_ : Kd.R (Kd.int .i64) 3 w124 w.heap.size (fun k_ => some k_ ≠ (.slice Ao31 x9_4.length co31 : Value).ownBlock) (.slice (some ⟨go114, 0, none⟩) t162.length co122) y168 := (by rw [hw, Ny168.out]; exact HP123.1); clear HP123; replace HO_7 := Qa.mk (Kd.R_over' (v := (.slice (some ⟨go114, 0, none⟩) t162.length co122)) (pR HO_7.out) (Kd.R_typed HO164.out) (by decide) hg); replace HO_9 := Qa.mk (Kd.R_after (v := (.slice (some ⟨go114, 0, none⟩) t162.length co122)) (v1 := (.slice (some ⟨go114, 0, none⟩) t162.length co122)) (ok := (fun _ => True)) (pR HO_9.out) hg (.inl rfl)); replace BK101 := Qa.mk (Ja (g := gb101) (o := .cells #[.slice A0_0 l0_0.length c0_0, .int .u8 a0_1, .int .u8 a0_2, .int .u8 a0_3, .int .u8 a0_4, .int .u8 a0_5] 91 (0, 0)) (pB BK101.out) hg (Kd.R_ne HO164.out BK101.out (by decide))); replace BK110 := Qa.mk (Ja (g := gb110) (o := .cells #[.int .i64 t105, .int .i64 t106, .int .i64 t107, .int .i64 t108, .int .i64 t109] 26 (0, 0)) (pB BK110.out) hg (Kd.R_ne HO164.out BK110.out (by decide))); replace BK117 := Qa.mk (Ja (g := gb117) (o := .cells #[.int .i64 t114, .int .i64 t115] 24 (0, 0)) (pB BK117.out) hg (Kd.R_ne HO164.out BK117.out (by decide))); replace BK137 := Qa.mk (Ja (g := gb137) (o := .cells #[.int .i64 t134, .int .i64 t135] 24 (0, 0)) (pB BK137.out) hg (Kd.R_ne HO164.out BK137.out (by decide))); replace BK142 := Qa.mk (Ja (g := gb142) (o := .cells #[.int .i64 x143000_2, .int .i64 x143001_2] 98 (0, 0)) (pB BK142.out) hg (Kd.R_ne HO164.out BK142.out (by decide))); replace HO164 := Qa.mk (hp_); replace HB := Qa.mk ((by rw [hw]; exact Q3 (HB.out) GB114.out : Below w.heap.size w w124)); clear hg hw hp_))
                    replace HO_7 := Qa.mk (Kd.R_drew HO_7.out); replace HO_9 := Qa.mk (Kd.R_drew HO_9.out); replace HO164 := Qa.mk (Kd.R_drew HO164.out); replace BK101 := Qa.mk (Qh BK101.out); replace BK110 := Qa.mk (Qh BK110.out); replace BK117 := Qa.mk (Qh BK117.out); replace BK137 := Qa.mk (Qh BK137.out); replace BK142 := Qa.mk (Qh BK142.out); replace HB := Qa.mk (QM HB.out); refine JS (n := 11) (S := fun w' => w'.cell? ⟨gb110, 0, none⟩ = some (.int .i64 t105) ∧ w'.cell? ⟨gb110, 1, none⟩ = some (.int .i64 t106) ∧ w'.cell? ⟨gb110, 2, none⟩ = some (.int .i64 t107) ∧ w'.cell? ⟨gb110, 3, none⟩ = some (.int .i64 t108) ∧ w'.cell? ⟨gb110, 4, none⟩ = some (.int .i64 t109)) (ds := []) #[false, false, false, false, false, false, false, false, false, false, false] (by kernel_rfl) rfl rfl ⟨cz0 BK110, cz1 BK110, cz2 BK110, cz3 BK110, cz4 BK110⟩ (fun hHeld => ?_); refine Jk Qao.tab27 Qao.bits27 (fun HT_ HW_ => ?_); generalize w124.drew = w125 at HO_7 HO_9 HO164 BK101 BK110 BK117 BK137 BK142 HB hHeld ⊢; refine pU 0 250 ?_; refine pU 3 253 ?_; refine tK 2 252 hHeld ?_; refine join_ (σ := Value × Nat) 2 #[true, true, true, true, true, true, true, true, true, false, false] (fun s_ => [(251, s_.1), (254, .tuple #[.agg #[.int .i64 t172, .int .i64 t173], .int .i64 t174]), (28, .pointer (some ⟨s_.2, 0, none⟩)), (249, .tuple #[.agg #[.int .i64 t172, .int .i64 t173], .int .i64 t174]), (255, .agg #[.int .i64 t172, .int .i64 t173]), (256, .int .i64 t174)]) (fun s_ w' => (w'.cell? ⟨gb110, 0, none⟩ = some (.int .i64 t105) ∧ w'.cell? ⟨gb110, 1, none⟩ = some (.int .i64 t106) ∧ w'.cell? ⟨gb110, 2, none⟩ = some (.int .i64 t107) ∧ w'.cell? ⟨gb110, 3, none⟩ = some (.int .i64 t108) ∧ w'.cell? ⟨gb110, 4, none⟩ = some (.int .i64 t109)) ∧ (Kd.R (Kd.int .i64) 3 w' w.heap.size (fun k_ => some k_ ≠ (.slice Ao31 x9_4.length co31 : Value).ownBlock) (.slice (some ⟨go114, 0, none⟩) t162.length co122) y168) ∧ (Kd.R k100 100 w' w.heap.size (fun k_ => some k_ ≠ (.slice (some ad166) t102.length co20 : Value).ownBlock) s_.1 t169) ∧ (Kd.R k100 100 w' w.heap.size (fun k_ => some k_ ≠ (s_.1 : Value).ownBlock) (.slice (some ad166) t102.length co20) t102) ∧ (Kd.R (Kd.int .i64) 3 w' w.heap.size (fun k_ => some k_ ≠ (.slice (some ⟨go114, 0, none⟩) t162.length co122 : Value).ownBlock) (.slice Ao31 x9_4.length co31) x9_4) ∧ (w'.heap[gb101]? = some (.cells #[.slice A0_0 l0_0.length c0_0, .int .u8 a0_1, .int .u8 a0_2, .int .u8 a0_3, .int .u8 a0_4, .int .u8 a0_5] 91 (0, 0))) ∧ (w'.heap[gb110]? = some (.cells #[.int .i64 t105, .int .i64 t106, .int .i64 t107, .int .i64 t108, .int .i64 t109] 26 (0, 0))) ∧ (w'.heap[gb117]? = some (.cells #[.int .i64 t114, .int .i64 t115] 24 (0, 0))) ∧ (w'.heap[gb137]? = some (.cells #[.int .i64 t134, .int .i64 t135] 24 (0, 0))) ∧ (w'.heap[gb142]? = some (.cells #[.int .i64 x143000_2, .int .i64 x143001_2] 98 (0, 0))) ∧ (w'.heap[s_.2]? = some (.cells #[.int .i64 0, .int .i64 0] 24 (0, 0))) ∧ (w.heap.size ≤ s_.2) ∧ (w.heap.size ≤ s_.2) ∧ (gb101 ≠ s_.2) ∧ (s_.2 ≠ gb101) ∧ (gb110 ≠ s_.2) ∧ (s_.2 ≠ gb110) ∧ (gb117 ≠ s_.2) ∧ (s_.2 ≠ gb117) ∧ (gb137 ≠ s_.2) ∧ (s_.2 ≠ gb137) ∧ (gb142 ≠ s_.2) ∧ (s_.2 ≠ gb142) ∧ (Below w.heap.size w w')) ?_ ?_
                    rotate_left
                    ·
                     intro hCont; refine two_ (i := 1) (j := 8) (Ni := some 251) (Nj := some 28) #[true, true, true, true, false, false, false, false, false, false, false] #[true, false, true, true, false, false, false, false, true, false, false] rfl rfl rfl rfl (YY HT_.out (by kernel_rfl)) (by decide) (by decide) (fun K hK => ?_) (fun K hK => ?_)
                     ·
                      skip
                      refine gO Tryz.func54 #[.slice (some ad166) t102.length co20] ?_
                      with_reducible refine (Qaw.calls _ _ t102 t169 _ ?side1 ?side2 A115.out).mono ?_
                      (case side1 => exact pC (Kd.R_reads' HO_7.out).2.2)
                      (case side2 => exact (Kd.R_reads' HO_7.out).2.1)
                      rintro e w126 ⟨v170, rfl, ho0, hb⟩; refine ⟨_, rfl, ?_⟩; replace HO_9 := rb HO_9 hb; replace HO164 := rb HO164 hb; have HO171 := Qa.mk (Kd.R_lower (Kd.R_new' ho0 (Kd.R_lt (pR HO_7.out))) (Qr (pE HB))); replace HO_7 := re HO_7 ho0 hb; replace BK101 := bb BK101 hb; replace BK110 := bb BK110 hb; replace BK117 := bb BK117 hb; replace BK137 := bb BK137 hb; replace BK142 := bb BK142 hb; replace HB := bs HB hb
                      (try clear hb)
                      (try clear hb2)
                      (try clear hk)
                      (try clear hi)
                      (try clear ho0)
                      obtain ⟨Ao127, co127, eo127⟩ := Kd.R_slice HO171.out
                      (first | subst eo127 | (injection eo127 with f1_ f2_ f3_; have f4_ := f1_.symm; have f5_ := f3_.symm; clear f1_ f2_ f3_; subst f4_; subst f5_))
                      refine hK.out _ _ ⟨cz0 BK110, cz1 BK110, cz2 BK110, cz3 BK110, cz4 BK110⟩ (fun hHeld => ?_); clear hK K; refine QY (a' := ?_) ?_ ?_
                      rotate_left
                      ·
                       show Act.put _ (some 251) _ = _; simp only [Act.put, List.setIfInBounds_toArray, List.set_cons_zero, List.set_cons_succ, QR, QU]; rfl
                      refine two_ (i := 4) (j := 8) (Ni := some 254) (Nj := some 28) #[true, true, true, true, true, false, false, false, false, false, false] #[true, true, true, true, false, false, false, false, true, false, false] rfl rfl rfl rfl (YY HT_.out (by kernel_rfl)) (by decide) (by decide) (fun K hK => ?_) (fun K hK => ?_)
                      ·
                       skip
                       refine Xx Tryz.func21 (by kernel_rfl) rfl #[.slice Ao127 t169.length co127, .agg #[.int .i64 t105, .int .i64 t106, .int .i64 t107, .int .i64 t108, .int .i64 t109], .slice (some ⟨go114, 0, none⟩) y168.length co122] (by rfl) rfl rfl (by (try simp only [List.map_toArray, List.map_cons, List.map_nil]); first | done | (rw [show y168.length = t162.length from (Kd.R_reads' HO164.out).1.symm] <;> rfl) | rfl | (simp only [List.length_drop, List.length_take]; rfl)) ?_
                       with_reducible refine (JE.calls k4 _ _ t169 t105 t106 t107 t108 t109 _ _ y168 t172 t173 t174 _ ?side1 ?side2 ?side3 ?side4 A116.out).mono ?_
                       (case side1 => exact pC (Kd.R_reads' HO171.out).2.2)
                       (case side2 => exact (Kd.R_reads' HO171.out).2.1)
                       (case side3 => exact pC (Kd.R_reads' HO164.out).2.2)
                       (case side4 => rw [show y168.length = t162.length from (Kd.R_reads' HO164.out).1.symm]; exact (Kd.R_reads' HO164.out).2.1)
                       rintro e w128 ⟨rfl, hb⟩; refine ⟨_, rfl, ?_⟩; replace HO_7 := rb HO_7 hb; replace HO_9 := rb HO_9 hb; replace HO164 := rb HO164 hb; replace HO171 := rb HO171 hb; replace BK101 := bb BK101 hb; replace BK110 := bb BK110 hb; replace BK117 := bb BK117 hb; replace BK137 := bb BK137 hb; replace BK142 := bb BK142 hb; replace HB := bs HB hb
                       (try clear hb)
                       (try clear hb2)
                       (try clear hk)
                       (try clear hi)
                       refine hK.out _ _ ⟨cz0 BK110, cz1 BK110, cz2 BK110, cz3 BK110, cz4 BK110⟩ (fun hHeld => ?_); clear hK K; refine QY (a' := ?_) ?_ ?_
                       rotate_left
                       ·
                        show Act.put _ (some 254) _ = _; simp only [Act.put, List.setIfInBounds_toArray, List.set_cons_zero, List.set_cons_succ, QR, QU]; rfl
                       refine pU 5 249 ?_; refine pU 6 255 ?_; refine pU 7 256 ?_; refine on 8 (fun K hK => ?_); refine Xu ?hg (N := 28) ?hd (cs := #[.int .i64 0, .int .i64 0]) (t := 24) ?hr ?_; (case hd => rfl); (case hg => rfl); (case hr => first | (go_simp; done) | (go_simp; rfl)); intro gb175 hg w129 hbox hb; replace HO_7 := rb HO_7 hb; replace HO_9 := rb HO_9 hb; replace HO164 := rb HO164 hb; replace HO171 := rb HO171 hb; have BK175 := Qa.mk (hbox); have GW175 := gs HB hg; have GE175 := gs HB hg; replace HB := bs HB hb; have NB101_175 := nl BK101 hg; have NB175_101 := nr BK101 hg; replace BK101 := bb BK101 hb; have NB110_175 := nl BK110 hg; have NB175_110 := nr BK110 hg; replace BK110 := bb BK110 hb; have NB117_175 := nl BK117 hg; have NB175_117 := nr BK117 hg; replace BK117 := bb BK117 hb; have NB137_175 := nl BK137 hg; have NB175_137 := nr BK137 hg; replace BK137 := bb BK137 hb; have NB142_175 := nl BK142 hg; have NB175_142 := nr BK142 hg; replace BK142 := bb BK142 hb; clear hb hg; refine hK.out _ _ ⟨cz0 BK110, cz1 BK110, cz2 BK110, cz3 BK110, cz4 BK110⟩ (fun hHeld => ?_); clear hK K; refine QY (a' := ?_) ?_ ?_
                       rotate_left
                       ·
                        show Act.put _ (some 28) _ = _; simp only [Act.put, List.setIfInBounds_toArray, List.set_cons_zero, List.set_cons_succ, QR, QU]; rfl
                       exact QY (by simp only [ZP, Act.put, List.setIfInBounds_toArray, List.set_cons_zero, List.set_cons_succ]) (hCont (.slice Ao127 t169.length co127, gb175) _ ⟨hHeld, (pR HO164.out), (by refine pR ?_; exact Kd.R_mono HO171.out (fun _ hk => hk.2)), (by refine pR ?_; exact Kd.R_mono HO_7.out (fun _ hk => hk.2)), (by refine pR ?_; exact Kd.R_mono HO_9.out (fun _ hk => hk.2)), (pB BK101.out), (pB BK110.out), (pB BK117.out), (pB BK137.out), (pB BK142.out), (pB BK175.out), GW175.out, GE175.out, NB101_175.out, NB175_101.out, NB110_175.out, NB175_110.out, NB117_175.out, NB175_117.out, NB137_175.out, NB175_137.out, NB142_175.out, NB175_142.out, (pE HB)⟩)
                      ·
                       skip
                       refine Xu ?hg (N := 28) ?hd (cs := #[.int .i64 0, .int .i64 0]) (t := 24) ?hr ?_; (case hd => rfl); (case hg => rfl); (case hr => first | (go_simp; done) | (go_simp; rfl)); intro gb175 hg w127 hbox hb; replace HO_7 := rb HO_7 hb; replace HO_9 := rb HO_9 hb; replace HO164 := rb HO164 hb; replace HO171 := rb HO171 hb; have BK175 := Qa.mk (hbox); have GW175 := gs HB hg; have GE175 := gs HB hg; replace HB := bs HB hb; have NB101_175 := nl BK101 hg; have NB175_101 := nr BK101 hg; replace BK101 := bb BK101 hb; have NB110_175 := nl BK110 hg; have NB175_110 := nr BK110 hg; replace BK110 := bb BK110 hb; have NB117_175 := nl BK117 hg; have NB175_117 := nr BK117 hg; replace BK117 := bb BK117 hb; have NB137_175 := nl BK137 hg; have NB175_137 := nr BK137 hg; replace BK137 := bb BK137 hb; have NB142_175 := nl BK142 hg; have NB175_142 := nr BK142 hg; replace BK142 := bb BK142 hb; clear hb hg; obtain ⟨Ao128, co128, eo128⟩ := Kd.R_slice HO171.out
                       (first | subst eo128 | (injection eo128 with f1_ f2_ f3_; have f4_ := f1_.symm; have f5_ := f3_.symm; clear f1_ f2_ f3_; subst f4_; subst f5_))
                       refine hK.out _ _ ⟨cz0 BK110, cz1 BK110, cz2 BK110, cz3 BK110, cz4 BK110⟩ (fun hHeld => ?_); clear hK K; refine QY (a' := ?_) ?_ ?_
                       rotate_left
                       ·
                        show Act.put _ (some 28) _ = _; simp only [Act.put, List.setIfInBounds_toArray, List.set_cons_zero, List.set_cons_succ, QR, QU]; rfl
                       refine on 4 (fun K hK => ?_); refine Xx Tryz.func21 (by kernel_rfl) rfl #[.slice Ao128 t169.length co128, .agg #[.int .i64 t105, .int .i64 t106, .int .i64 t107, .int .i64 t108, .int .i64 t109], .slice (some ⟨go114, 0, none⟩) y168.length co122] (by rfl) rfl rfl (by (try simp only [List.map_toArray, List.map_cons, List.map_nil]); first | done | (rw [show y168.length = t162.length from (Kd.R_reads' HO164.out).1.symm] <;> rfl) | rfl | (simp only [List.length_drop, List.length_take]; rfl)) ?_
                       with_reducible refine (JE.calls k4 _ _ t169 t105 t106 t107 t108 t109 _ _ y168 t172 t173 t174 _ ?side1 ?side2 ?side3 ?side4 A116.out).mono ?_
                       (case side1 => exact pC (Kd.R_reads' HO171.out).2.2)
                       (case side2 => exact (Kd.R_reads' HO171.out).2.1)
                       (case side3 => exact pC (Kd.R_reads' HO164.out).2.2)
                       (case side4 => rw [show y168.length = t162.length from (Kd.R_reads' HO164.out).1.symm]; exact (Kd.R_reads' HO164.out).2.1)
                       rintro e w129 ⟨rfl, hb⟩; refine ⟨_, rfl, ?_⟩; replace HO_7 := rb HO_7 hb; replace HO_9 := rb HO_9 hb; replace HO164 := rb HO164 hb; replace HO171 := rb HO171 hb; replace BK101 := bb BK101 hb; replace BK110 := bb BK110 hb; replace BK117 := bb BK117 hb; replace BK137 := bb BK137 hb; replace BK142 := bb BK142 hb; replace BK175 := bb BK175 hb; replace HB := bs HB hb
                       (try clear hb)
                       (try clear hb2)
                       (try clear hk)
                       (try clear hi)
                       refine hK.out _ _ ⟨cz0 BK110, cz1 BK110, cz2 BK110, cz3 BK110, cz4 BK110⟩ (fun hHeld => ?_); clear hK K; refine QY (a' := ?_) ?_ ?_
                       rotate_left
                       ·
                        show Act.put _ (some 254) _ = _; simp only [Act.put, List.setIfInBounds_toArray, List.set_cons_zero, List.set_cons_succ, QR, QU]; rfl
                       refine pU 5 249 ?_; refine pU 6 255 ?_; refine pU 7 256 ?_; exact QY (by simp only [ZP, Act.put, List.setIfInBounds_toArray, List.set_cons_zero, List.set_cons_succ]) (hCont (.slice Ao128 t169.length co128, gb175) _ ⟨hHeld, (pR HO164.out), (by refine pR ?_; exact Kd.R_mono HO171.out (fun _ hk => hk.2)), (by refine pR ?_; exact Kd.R_mono HO_7.out (fun _ hk => hk.2)), (by refine pR ?_; exact Kd.R_mono HO_9.out (fun _ hk => hk.2)), (pB BK101.out), (pB BK110.out), (pB BK117.out), (pB BK137.out), (pB BK142.out), (pB BK175.out), GW175.out, GE175.out, NB101_175.out, NB175_101.out, NB110_175.out, NB175_110.out, NB117_175.out, NB175_117.out, NB137_175.out, NB175_137.out, NB142_175.out, NB175_142.out, (pE HB)⟩)
                     ·
                      skip
                      refine Xu ?hg (N := 28) ?hd (cs := #[.int .i64 0, .int .i64 0]) (t := 24) ?hr ?_; (case hd => rfl); (case hg => rfl); (case hr => first | (go_simp; done) | (go_simp; rfl)); intro gb175 hg w126 hbox hb; replace HO_7 := rb HO_7 hb; replace HO_9 := rb HO_9 hb; replace HO164 := rb HO164 hb; have BK175 := Qa.mk (hbox); have GW175 := gs HB hg; have GE175 := gs HB hg; replace HB := bs HB hb; have NB101_175 := nl BK101 hg; have NB175_101 := nr BK101 hg; replace BK101 := bb BK101 hb; have NB110_175 := nl BK110 hg; have NB175_110 := nr BK110 hg; replace BK110 := bb BK110 hb; have NB117_175 := nl BK117 hg; have NB175_117 := nr BK117 hg; replace BK117 := bb BK117 hb; have NB137_175 := nl BK137 hg; have NB175_137 := nr BK137 hg; replace BK137 := bb BK137 hb; have NB142_175 := nl BK142 hg; have NB175_142 := nr BK142 hg; replace BK142 := bb BK142 hb; clear hb hg; refine hK.out _ _ ⟨cz0 BK110, cz1 BK110, cz2 BK110, cz3 BK110, cz4 BK110⟩ (fun hHeld => ?_); clear hK K; refine QY (a' := ?_) ?_ ?_
                      rotate_left
                      ·
                       show Act.put _ (some 28) _ = _; simp only [Act.put, List.setIfInBounds_toArray, List.set_cons_zero, List.set_cons_succ, QR, QU]; rfl
                      refine on 1 (fun K hK => ?_); refine gO Tryz.func54 #[.slice (some ad166) t102.length co20] ?_
                      with_reducible refine (Qaw.calls _ _ t102 t169 _ ?side1 ?side2 A115.out).mono ?_
                      (case side1 => exact pC (Kd.R_reads' HO_7.out).2.2)
                      (case side2 => exact (Kd.R_reads' HO_7.out).2.1)
                      rintro e w127 ⟨v170, rfl, ho0, hb⟩; refine ⟨_, rfl, ?_⟩; replace HO_9 := rb HO_9 hb; replace HO164 := rb HO164 hb; have HO171 := Qa.mk (Kd.R_lower (Kd.R_new' ho0 (Kd.R_lt (pR HO_7.out))) (Qr (pE HB))); replace HO_7 := re HO_7 ho0 hb; replace BK101 := bb BK101 hb; replace BK110 := bb BK110 hb; replace BK117 := bb BK117 hb; replace BK137 := bb BK137 hb; replace BK142 := bb BK142 hb; replace BK175 := bb BK175 hb; replace HB := bs HB hb
                      (try clear hb)
                      (try clear hb2)
                      (try clear hk)
                      (try clear hi)
                      (try clear ho0)
                      obtain ⟨Ao128, co128, eo128⟩ := Kd.R_slice HO171.out
                      (first | subst eo128 | (injection eo128 with f1_ f2_ f3_; have f4_ := f1_.symm; have f5_ := f3_.symm; clear f1_ f2_ f3_; subst f4_; subst f5_))
                      refine hK.out _ _ ⟨cz0 BK110, cz1 BK110, cz2 BK110, cz3 BK110, cz4 BK110⟩ (fun hHeld => ?_); clear hK K; refine QY (a' := ?_) ?_ ?_
                      rotate_left
                      ·
                       show Act.put _ (some 251) _ = _; simp only [Act.put, List.setIfInBounds_toArray, List.set_cons_zero, List.set_cons_succ, QR, QU]; rfl
                      refine on 4 (fun K hK => ?_); refine Xx Tryz.func21 (by kernel_rfl) rfl #[.slice Ao128 t169.length co128, .agg #[.int .i64 t105, .int .i64 t106, .int .i64 t107, .int .i64 t108, .int .i64 t109], .slice (some ⟨go114, 0, none⟩) y168.length co122] (by rfl) rfl rfl (by (try simp only [List.map_toArray, List.map_cons, List.map_nil]); first | done | (rw [show y168.length = t162.length from (Kd.R_reads' HO164.out).1.symm] <;> rfl) | rfl | (simp only [List.length_drop, List.length_take]; rfl)) ?_
                      with_reducible refine (JE.calls k4 _ _ t169 t105 t106 t107 t108 t109 _ _ y168 t172 t173 t174 _ ?side1 ?side2 ?side3 ?side4 A116.out).mono ?_
                      (case side1 => exact pC (Kd.R_reads' HO171.out).2.2)
                      (case side2 => exact (Kd.R_reads' HO171.out).2.1)
                      (case side3 => exact pC (Kd.R_reads' HO164.out).2.2)
                      (case side4 => rw [show y168.length = t162.length from (Kd.R_reads' HO164.out).1.symm]; exact (Kd.R_reads' HO164.out).2.1)
                      rintro e w129 ⟨rfl, hb⟩; refine ⟨_, rfl, ?_⟩; replace HO_7 := rb HO_7 hb; replace HO_9 := rb HO_9 hb; replace HO164 := rb HO164 hb; replace HO171 := rb HO171 hb; replace BK101 := bb BK101 hb; replace BK110 := bb BK110 hb; replace BK117 := bb BK117 hb; replace BK137 := bb BK137 hb; replace BK142 := bb BK142 hb; replace BK175 := bb BK175 hb; replace HB := bs HB hb
                      (try clear hb)
                      (try clear hb2)
                      (try clear hk)
                      (try clear hi)
                      refine hK.out _ _ ⟨cz0 BK110, cz1 BK110, cz2 BK110, cz3 BK110, cz4 BK110⟩ (fun hHeld => ?_); clear hK K; refine QY (a' := ?_) ?_ ?_
                      rotate_left
                      ·
                       show Act.put _ (some 254) _ = _; simp only [Act.put, List.setIfInBounds_toArray, List.set_cons_zero, List.set_cons_succ, QR, QU]; rfl
                      refine pU 5 249 ?_; refine pU 6 255 ?_; refine pU 7 256 ?_; exact QY (by simp only [ZP, Act.put, List.setIfInBounds_toArray, List.set_cons_zero, List.set_cons_succ]) (hCont (.slice Ao128 t169.length co128, gb175) _ ⟨hHeld, (pR HO164.out), (by refine pR ?_; exact Kd.R_mono HO171.out (fun _ hk => hk.2)), (by refine pR ?_; exact Kd.R_mono HO_7.out (fun _ hk => hk.2)), (by refine pR ?_; exact Kd.R_mono HO_9.out (fun _ hk => hk.2)), (pB BK101.out), (pB BK110.out), (pB BK117.out), (pB BK137.out), (pB BK142.out), (pB BK175.out), GW175.out, GE175.out, NB101_175.out, NB175_101.out, NB110_175.out, NB175_110.out, NB117_175.out, NB175_117.out, NB137_175.out, NB175_137.out, NB142_175.out, NB175_142.out, (pE HB)⟩)
                    rintro ⟨v170, gb175⟩ w130 ⟨hS_, h0_, h1_, h2_, h3_, h4_, h5_, h6_, h7_, h8_, h9_, h10_, h11_, h12_, h13_, h14_, h15_, h16_, h17_, h18_, h19_, h20_, h21_, h22_⟩; have n0_ : Qa (Kd.R (Kd.int .i64) 3 w130 w.heap.size (fun k_ => some k_ ≠ (.slice Ao31 x9_4.length co31 : Value).ownBlock) (.slice (some ⟨go114, 0, none⟩) t162.length co122) y168) := ⟨h0_⟩; have n1_ : Qa (Kd.R k100 100 w130 w.heap.size (fun k_ => some k_ ≠ (.slice (some ad166) t102.length co20 : Value).ownBlock) v170 t169) := ⟨h1_⟩; have n2_ : Qa (Kd.R k100 100 w130 w.heap.size (fun k_ => some k_ ≠ (v170 : Value).ownBlock) (.slice (some ad166) t102.length co20) t102) := ⟨h2_⟩; have n3_ : Qa (Kd.R (Kd.int .i64) 3 w130 w.heap.size (fun k_ => some k_ ≠ (.slice (some ⟨go114, 0, none⟩) t162.length co122 : Value).ownBlock) (.slice Ao31 x9_4.length co31) x9_4) := ⟨h3_⟩; have n4_ : Qa (w130.heap[gb101]? = some (.cells #[.slice A0_0 l0_0.length c0_0, .int .u8 a0_1, .int .u8 a0_2, .int .u8 a0_3, .int .u8 a0_4, .int .u8 a0_5] 91 (0, 0))) := ⟨h4_⟩; have n5_ : Qa (w130.heap[gb110]? = some (.cells #[.int .i64 t105, .int .i64 t106, .int .i64 t107, .int .i64 t108, .int .i64 t109] 26 (0, 0))) := ⟨h5_⟩; have n6_ : Qa (w130.heap[gb117]? = some (.cells #[.int .i64 t114, .int .i64 t115] 24 (0, 0))) := ⟨h6_⟩; have n7_ : Qa (w130.heap[gb137]? = some (.cells #[.int .i64 t134, .int .i64 t135] 24 (0, 0))) := ⟨h7_⟩; have n8_ : Qa (w130.heap[gb142]? = some (.cells #[.int .i64 x143000_2, .int .i64 x143001_2] 98 (0, 0))) := ⟨h8_⟩; have n9_ : Qa (w130.heap[gb175]? = some (.cells #[.int .i64 0, .int .i64 0] 24 (0, 0))) := ⟨h9_⟩; have n10_ : Qa (w.heap.size ≤ gb175) := ⟨h10_⟩; have n11_ : Qa (w.heap.size ≤ gb175) := ⟨h11_⟩; have n12_ : Qa (gb101 ≠ gb175) := ⟨h12_⟩; have n13_ : Qa (gb175 ≠ gb101) := ⟨h13_⟩; have n14_ : Qa (gb110 ≠ gb175) := ⟨h14_⟩; have n15_ : Qa (gb175 ≠ gb110) := ⟨h15_⟩; have n16_ : Qa (gb117 ≠ gb175) := ⟨h16_⟩; have n17_ : Qa (gb175 ≠ gb117) := ⟨h17_⟩; have n18_ : Qa (gb137 ≠ gb175) := ⟨h18_⟩; have n19_ : Qa (gb175 ≠ gb137) := ⟨h19_⟩; have n20_ : Qa (gb142 ≠ gb175) := ⟨h20_⟩; have n21_ : Qa (gb175 ≠ gb142) := ⟨h21_⟩; have n22_ : Qa (Below w.heap.size w w130) := ⟨h22_⟩; clear HO_7 HO_9 HO164 BK101 BK110 BK117 BK137 BK142 HB h0_ h1_ h2_ h3_ h4_ h5_ h6_ h7_ h8_ h9_ h10_ h11_ h12_ h13_ h14_ h15_ h16_ h17_ h18_ h19_ h20_ h21_ h22_; have HO164 := n0_; have HO171 := n1_; have HO_7 := n2_; have HO_9 := n3_; have BK101 := n4_; have BK110 := n5_; have BK117 := n6_; have BK137 := n7_; have BK142 := n8_; have BK175 := n9_; have GW175 := n10_; have GE175 := n11_; have NB101_175 := n12_; have NB175_101 := n13_; have NB110_175 := n14_; have NB175_110 := n15_; have NB117_175 := n16_; have NB175_117 := n17_; have NB137_175 := n18_; have NB175_137 := n19_; have NB142_175 := n20_; have NB175_142 := n21_; have HB := n22_; clear n0_ n1_ n2_ n3_ n4_ n5_ n6_ n7_ n8_ n9_ n10_ n11_ n12_ n13_ n14_ n15_ n16_ n17_ n18_ n19_ n20_ n21_ n22_; have hHeld : w130.cell? ⟨gb110, 0, none⟩ = some (.int .i64 t105) ∧ w130.cell? ⟨gb110, 1, none⟩ = some (.int .i64 t106) ∧ w130.cell? ⟨gb110, 2, none⟩ = some (.int .i64 t107) ∧ w130.cell? ⟨gb110, 3, none⟩ = some (.int .i64 t108) ∧ w130.cell? ⟨gb110, 4, none⟩ = some (.int .i64 t109) := hS_; refine QY (a' := ?_) ?_ ?_
                    rotate_left
                    ·
                     simp only [ZP, Act.put, List.setIfInBounds_toArray, List.set_cons_zero, List.set_cons_succ]; rfl
                    refine on 9 (fun K hK => ?_); have hs131 : w130.cell? ⟨gb175, 0, none⟩ = some (.int .i64 0) := (Qb BK175.out 0).trans rfl; have hfs131 := Qq BK175.out 0; have hns131_0 := NB101_175.out; have hns131_1 := NB110_175.out; have hns131_2 := NB117_175.out; have hns131_3 := NB137_175.out; have hns131_4 := NB142_175.out; have hms131_0 := NB175_101.out; have hms131_1 := NB175_110.out; have hms131_2 := NB175_117.out; have hms131_3 := NB175_137.out; have hms131_4 := NB175_142.out; have hs132 : w130.cell? ⟨gb175, 1, none⟩ = some (.int .i64 0) := (Qb BK175.out 1).trans rfl; have hfs132 := Qq BK175.out 1; have hns132_0 := NB101_175.out; have hns132_1 := NB110_175.out; have hns132_2 := NB117_175.out; have hns132_3 := NB137_175.out; have hns132_4 := NB142_175.out; have hms132_0 := NB175_101.out; have hms132_1 := NB175_110.out; have hms132_2 := NB175_117.out; have hms132_3 := NB175_137.out; have hms132_4 := NB175_142.out; refine Z7 (w1 := ?_) (by rfl) rfl ?_ ?_
                    rotate_left
                    ·
                     go_simp
                     rfl
                    refine hK.out _ _ ⟨((QW (p := ⟨gb175, _, none⟩) NB110_175.out _).trans (((QW (p := ⟨gb175, _, none⟩) NB110_175.out _).trans (hHeld.1)))), ((QW (p := ⟨gb175, _, none⟩) NB110_175.out _).trans (((QW (p := ⟨gb175, _, none⟩) NB110_175.out _).trans (hHeld.2.1)))), ((QW (p := ⟨gb175, _, none⟩) NB110_175.out _).trans (((QW (p := ⟨gb175, _, none⟩) NB110_175.out _).trans (hHeld.2.2.1)))), ((QW (p := ⟨gb175, _, none⟩) NB110_175.out _).trans (((QW (p := ⟨gb175, _, none⟩) NB110_175.out _).trans (hHeld.2.2.2.1)))), ((QW (p := ⟨gb175, _, none⟩) NB110_175.out _).trans (((QW (p := ⟨gb175, _, none⟩) NB110_175.out _).trans (hHeld.2.2.2.2))))⟩ (fun hHeld => ?_); clear hK K; refine pU 10 29 ?_; refine JD (JM HT_.out (by kernel_rfl)) ?_; have hnb133 := NB175_101.out; have hnc133 := NB101_175.out; have hnb134 := NB175_110.out; have hnc134 := NB110_175.out; have hnb135 := NB175_117.out; have hnc135 := NB117_175.out; have hnb136 := NB175_137.out; have hnc136 := NB137_175.out; have hnb137 := NB175_142.out; have hnc137 := NB142_175.out; obtain ⟨_, _, _, _⟩ := cf2 BK175; have hnb139 := NB137_101.out; have hnc139 := NB101_137.out; have hnb140 := NB137_110.out; have hnc140 := NB110_137.out; have hnb141 := NB137_117.out; have hnc141 := NB117_137.out; have hnb142 := NB137_142.out; have hnc142 := NB142_137.out; obtain ⟨_, _, _, _⟩ := cf2 BK137
                    try go_wp2
                    (try simp only [← hl9_4])
                    go_roundg k4
                    case measure => have := HJ12.out; have := HK2.out; have := HJ77.out; have := HK4.out; omega
                    case rel => exact ⟨(x9_4), (wrap64 (x26_4 + 1)), eS, H', ⟨by have := HJ12.out; have := HK2.out; have := HJ77.out; have := HK4.out; omega⟩, ⟨by (try simp only [hl9_4]); (with_reducible repeat (first | apply Kd.R_alloc | apply Kd.R_drewN | apply Kd.R_drew)); exact Kd.R_mono (Rf2 (g := gb175) (Kd.R_types HO_7.out BK175.out (by decide))) (fun _ hk => trivial)⟩, ⟨by (try simp only [hl9_4]); (with_reducible repeat (first | apply Kd.R_alloc | apply Kd.R_drewN | apply Kd.R_drew)); exact Kd.R_mono (Rf2 (g := gb175) (Kd.R_types HO_9.out BK175.out (by decide))) (fun _ hk => trivial)⟩, ⟨by (try simp only [hl9_4]); refine pB ?_; refine Qx ?_ NB101_175.out _; refine pB ?_; refine Qx ?_ NB101_175.out _; (with_reducible repeat (first | refine Qt ?_ _ | refine Qh ?_ | refine Qap ?_ _)); exact BK101.out⟩, ⟨by (try simp only [hl9_4]); refine pB ?_; refine Qx ?_ NB110_175.out _; refine pB ?_; refine Qx ?_ NB110_175.out _; (with_reducible repeat (first | refine Qt ?_ _ | refine Qh ?_ | refine Qap ?_ _)); exact BK110.out⟩, ⟨by (try simp only [hl9_4]); refine pB ?_; refine Qx ?_ NB117_175.out _; refine pB ?_; refine Qx ?_ NB117_175.out _; (with_reducible repeat (first | refine Qt ?_ _ | refine Qh ?_ | refine Qap ?_ _)); exact BK117.out⟩, ⟨by (try simp only [hl9_4]); refine pB ?_; refine Qx ?_ NB137_175.out _; refine pB ?_; refine Qx ?_ NB137_175.out _; (with_reducible repeat (first | refine Qt ?_ _ | refine Qh ?_ | refine Qap ?_ _)); exact BK137.out⟩, ⟨by (try simp only [hl9_4]); refine pB ?_; refine Qx ?_ NB142_175.out _; refine pB ?_; refine Qx ?_ NB142_175.out _; (with_reducible repeat (first | refine Qt ?_ _ | refine Qh ?_ | refine Qap ?_ _)); exact BK142.out⟩, ⟨pE HB⟩⟩
                 ·
                  rw [if_neg c117] at H; have c117b0 : (t174 == 0) = false := beq_eq_false_iff_ne.mpr c117; have c117b1 : (t174 != 0) = true := bne_iff_ne.mpr c117; exact absurd ((Option.some.inj H).trans HRT.out) (by simp)
                ·
                 rw [if_neg c113] at H; have c113b0 : decide ((rd t162 x26_4) < ((Qf t102 x26_4).f3)) = false := decide_eq_false c113; clear c113; have H' := Qa.mk H; clear H
                 try go_wp2_with (first | ((with_reducible refine gc 55 rfl ?_); refine gL 232 Tryz.func55 #[.slice Ao31 x9_4.length co31] ?_; (with_reducible refine (Qav.calls _ _ x9_4 t162 _ ?side1 ?side2 A110.out).mono ?_); (case side1 => exact pC (Kd.R_reads' HO_9.out).2.2); (case side2 => exact (Kd.R_reads' HO_9.out).2.1); rintro e w144 ⟨v163, rfl, ho0, hb⟩; refine ⟨_, rfl, ?_⟩; replace HO_7 := rb HO_7 hb; have HO164 := Qa.mk (Kd.R_lower (Kd.R_new' ho0 (Kd.R_lt (pR HO_9.out))) (Qr (pE HB))); replace HO_9 := re HO_9 ho0 hb; replace BK101 := bb BK101 hb; replace BK110 := bb BK110 hb; replace BK117 := bb BK117 hb; replace BK137 := bb BK137 hb; replace BK142 := bb BK142 hb; replace HB := bs HB hb; clear hb ho0))
                 replace HO_7 := Qa.mk (Kd.R_drew HO_7.out); replace HO_9 := Qa.mk (Kd.R_drew HO_9.out); replace HO164 := Qa.mk (Kd.R_drew HO164.out); replace BK101 := Qa.mk (Qh BK101.out); replace BK110 := Qa.mk (Qh BK110.out); replace BK117 := Qa.mk (Qh BK117.out); replace BK137 := Qa.mk (Qh BK137.out); replace BK142 := Qa.mk (Qh BK142.out); replace HB := Qa.mk (QM HB.out); obtain ⟨Ao146, co146, eo146⟩ := Kd.R_slice HO164.out
                 (first | subst eo146 | (injection eo146 with f1_ f2_ f3_; have f4_ := f1_.symm; have f5_ := f3_.symm; clear f1_ f2_ f3_; subst f4_; subst f5_))
                 have p165 : 0 ≤ (x26_4 : Int) := dT; have q165 : x26_4 < (t162.length : Int) := dT; obtain ⟨ad165, e165, hx165_0⟩ := Kd.at_int (Kd.R_reads' HO164.out).2.2 x26_4 p165 q165
                 cases e165
                 replace p165 := eq_true p165; replace q165 := eq_true q165; have p166 : 0 ≤ (x26_4 : Int) := dT; have q166 : x26_4 < (t102.length : Int) := dT; obtain ⟨ad166, e166, hx166_0, hx166_1, hx166_2, hx166_3, hx166_4⟩ := Zf (Kd.R_reads' HO_7.out).2.2 x26_4 p166 q166
                 cases e166
                 replace p166 := eq_true p166; replace q166 := eq_true q166; refine JS (n := 10) (S := fun w' => w'.cell? (ad165.add (x26_4).toNat) = some (.int .i64 (rd t162 x26_4)) ∧ w'.cell? (ad166.add ((x26_4).toNat * 5)) = some (.int .i64 ((Qf t102 x26_4).f0.f0)) ∧ w'.cell? ⟨(ad166.add ((x26_4).toNat * 5)).block, (ad166.add ((x26_4).toNat * 5)).off + 1, none⟩ = some (.int .i64 ((Qf t102 x26_4).f0.f1)) ∧ w'.cell? ⟨(ad166.add ((x26_4).toNat * 5)).block, (ad166.add ((x26_4).toNat * 5)).off + 2, none⟩ = some (.int .i64 ((Qf t102 x26_4).f1)) ∧ w'.cell? ⟨(ad166.add ((x26_4).toNat * 5)).block, (ad166.add ((x26_4).toNat * 5)).off + 3, none⟩ = some (.int .i64 ((Qf t102 x26_4).f2)) ∧ w'.cell? ⟨(ad166.add ((x26_4).toNat * 5)).block, (ad166.add ((x26_4).toNat * 5)).off + 4, none⟩ = some (.int .i64 ((Qf t102 x26_4).f3))) (ds := []) #[false, false, false, false, false, false, false, false, false, false] (by kernel_rfl) rfl rfl ⟨hx165_0, hx166_0, hx166_1, hx166_2, hx166_3, hx166_4⟩ (fun hHeld => ?_); refine Jk Qao.tab25 Qao.bits25 (fun HT_ HW_ => ?_); generalize w144.drew = w145 at HO_7 HO_9 HO164 BK101 BK110 BK117 BK137 BK142 HB hx165_0 hx166_0 hx166_1 hx166_2 hx166_3 hx166_4 hHeld ⊢; refine pU 0 233 ?_; refine pU 1 234 ?_; refine pU 2 235 ?_; refine pU 4 237 ?_; refine pU 5 238 ?_; refine pU 6 239 ?_; refine pU 7 240 ?_; refine tK 3 236 hHeld ?_; refine tK 8 241 hHeld ?_; refine pU 9 242 ?_; refine JD (JM HT_.out (by kernel_rfl)) ?_
                 try go_wp2
                 (try simp only [← hl9_4])
                 go_roundg k4
                 case measure => have := HJ12.out; have := HK2.out; have := HJ77.out; have := HK4.out; omega
                 case rel => exact ⟨(x9_4), (wrap64 (x26_4 + 1)), eS, H', ⟨by have := HJ12.out; have := HK2.out; have := HJ77.out; have := HK4.out; omega⟩, ⟨by (try simp only [hl9_4]); (with_reducible repeat (first | apply Kd.R_alloc | apply Kd.R_drewN | apply Kd.R_drew)); exact HO_7.out⟩, ⟨by (try simp only [hl9_4]); (with_reducible repeat (first | apply Kd.R_alloc | apply Kd.R_drewN | apply Kd.R_drew)); exact Kd.R_mono HO_9.out (fun _ hk => trivial)⟩, ⟨by (try simp only [hl9_4]); (with_reducible repeat (first | refine Qt ?_ _ | refine Qh ?_ | refine Qap ?_ _)); exact BK101.out⟩, ⟨by (try simp only [hl9_4]); (with_reducible repeat (first | refine Qt ?_ _ | refine Qh ?_ | refine Qap ?_ _)); exact BK110.out⟩, ⟨by (try simp only [hl9_4]); (with_reducible repeat (first | refine Qt ?_ _ | refine Qh ?_ | refine Qap ?_ _)); exact BK117.out⟩, ⟨by (try simp only [hl9_4]); (with_reducible repeat (first | refine Qt ?_ _ | refine Qh ?_ | refine Qap ?_ _)); exact BK137.out⟩, ⟨by (try simp only [hl9_4]); (with_reducible repeat (first | refine Qt ?_ _ | refine Qh ?_ | refine Qap ?_ _)); exact BK142.out⟩, ⟨pE HB⟩⟩
               ·
                rw [if_neg c112] at H; exact absurd H (by simp)
              ·
               rw [if_neg c111] at H; exact absurd H (by simp)
             ·
              rw [if_neg c109] at H; have c109b0 : decide (x26_4 < (t102.length : Int)) = false := decide_eq_false c109; clear c109; obtain ⟨t161, A147, H⟩ := bi H; obtain rfl := Option.some.inj H; go_wp2_with (first | ((with_reducible refine gc 15 rfl ?_); refine gL 273 Tryz.func15 #[] ?_; (with_reducible refine (Qd.calls k4  t161 _ A147.out).mono ?_); rintro e w148 ⟨rfl, hb⟩; refine ⟨_, rfl, ?_⟩; replace HO_7 := rb HO_7 hb; replace HO_9 := rb HO_9 hb; replace BK101 := bb BK101 hb; replace BK110 := bb BK110 hb; replace BK117 := bb BK117 hb; replace BK137 := bb BK137 hb; replace BK142 := bb BK142 hb; replace HB := bs HB hb; clear hb)); go_ret; exact ⟨eT, pE HB⟩
end Go.Proofs.YtjaapkkpmegkfaaGreat.P
