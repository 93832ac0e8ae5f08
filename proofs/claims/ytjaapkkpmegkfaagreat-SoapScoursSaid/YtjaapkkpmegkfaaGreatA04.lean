/- Part 4 of what the law's proof needs beyond its base: words, walks of functions and plain facts. -/
import Derived.Below
import Derived.Deep.Draws
import Derived.Deep.AppendLies
import Derived.Maps.AppendAt
import Derived.OwnWalk
import Derived.Laws.BytesArg
import Derived.Laws.MakeOwn
import Derived.Laws.OwnMore
import Derived.Deep.OwnRows
import Derived.Tactics
import Derived.Lib.ConvBytes
import Derived.Laws.Slices
import Derived.WalkKit
import Derived.KernelRfl
import Derived.RowKit3
import Derived.Deep.LoopGhost
import Derived.Deep.QuietTactic
import Derived.BigQuiet
import Derived.WideLaws
import Derived.Deep.DeepCutAuto
import Derived.Deep.CutBlock
import Derived.Deep.RegionHeld3
import Derived.Laws.Rows
import Derived.Lib.AppendStr
import Derived.ArgAppend
import Derived.Laws.IdiomCopy
import Derived.RowKit
import Derived.Deep.Slices
import Derived.OpenShut
import Derived.ChangeArms
import Derived.Test.YtjaapkkpmegkfaaGreatM01
import Derived.Test.YtjaapkkpmegkfaaGreatM02
import Derived.Test.YtjaapkkpmegkfaaGreatM03
import Derived.Test.YtjaapkkpmegkfaaGreatM04
import Derived.Test.YtjaapkkpmegkfaaGreatM05
import Derived.Test.YtjaapkkpmegkfaaGreatM06
import Derived.Test.YtjaapkkpmegkfaaGreatM07
import Derived.Test.YtjaapkkpmegkfaaGreatM08
import Derived.Test.YtjaapkkpmegkfaaGreatM09
import Derived.Test.YtjaapkkpmegkfaaGreatM10
import Derived.Test.YtjaapkkpmegkfaaGreatM11
import Derived.Test.YtjaapkkpmegkfaaGreatM12
import Derived.Test.YtjaapkkpmegkfaaGreatM13
import Derived.Test.YtjaapkkpmegkfaaGreatA01
import Derived.Test.YtjaapkkpmegkfaaGreatA02
import Derived.Test.YtjaapkkpmegkfaaGreatA03
set_option linter.unusedVariables false
set_option linter.unusedSimpArgs false
namespace Go.Proofs.YtjaapkkpmegkfaaGreat.P
open Go.RowKit Go.Proofs.YtjaapkkpmegkfaaGreatW.PrintWords Go.Proofs.YtjaapkkpmegkfaaGreatW.PrintLast Go.Proofs.YtjaapkkpmegkfaaGreatW.PrintMore
attribute [local go_sem] JG JH JY JX Jv Ju JJ JK
attribute [local go_sem high] eqA24
mutual
def Qan.j0 : Nat → List S100 → List Int → Bool → Int → Int → Int → Int → Int → Option Bool
 | 0, _, _, _, _, _, _, _, _ => none
 | k + 1, x0, x2, x27, x102000, x102001, x102002, x102003, x102004 => if x27 = true then ((Qd.f k).bind fun t102 => (some t102)) else ((Qay.f x0).bind fun t103 => ((Qa2.f x2).bind fun t106 => ((Jf.f t103).bind fun t109 => ((Zl.f x102000 x102001 x102002 x102003 x102004).bind fun bt110 => ((Q0.f k t103 x102000 x102001 x102002 x102003 x102004 t106).bind fun bt114 => ((JE.f k t103 x102000 x102001 x102002 x102003 x102004 t106).bind fun bt118 => ((Qau.f k t103 x0).bind fun t122 => (if t122 = true then ((Qm.f k t106 x2).bind fun t123 => (if t123 = true then ((Qaq.f k x0).bind fun t124 => (Qan.j1 k x0 x2 bt110.2.2 bt114.1 bt114.2.1 bt114.2.2.1 bt114.2.2.2 bt118.2.2 (t109 != t124) x102000 x102001 x102002 x102003 x102004 bt110.1 bt110.2.1 bt118.1 bt118.2.1)) else (Qan.j1 k x0 x2 bt110.2.2 bt114.1 bt114.2.1 bt114.2.2.1 bt114.2.2.2 bt118.2.2 true x102000 x102001 x102002 x102003 x102004 bt110.1 bt110.2.1 bt118.1 bt118.2.1))) else (Qan.j1 k x0 x2 bt110.2.2 bt114.1 bt114.2.1 bt114.2.2.1 bt114.2.2.2 bt118.2.2 true x102000 x102001 x102002 x102003 x102004 bt110.1 bt110.2.1 bt118.1 bt118.2.1)))))))))
def Qan.j1 : Nat → List S100 → List Int → Int → Bool → Bool → Bool → Int → Int → Bool → Int → Int → Int → Int → Int → Int → Int → Int → Int → Option Bool
 | 0, _, _, _, _, _, _, _, _, _, _, _, _, _, _, _, _, _, _ => none
 | k + 1, x0, x2, x11, x12, x13, x14, x15, x17, x71, x102000, x102001, x102002, x102003, x102004, x114000, x114001, x122000, x122001 => if x71 = true then (some false) else ((Qas.f x102000 x102001 x102002 x102003 x102004).bind fun t125 => (if t125 = true then (if x11 = 0 then ((Qar.f x102000 x102001 x102002 x102003 x102004).bind fun bt126 => (if (!(x114000 == bt126.1) || (!(x114001 == bt126.2))) = true then (Qan.j2 k x0 x2 x12 x13 x14 x15 x17 true x102000 x102001 x102002 x102003 x102004 x122000 x122001) else ((Qas.f x102000 x102001 x102002 x102003 x102004).bind fun t128 => (if t128 = true then (Qan.j2 k x0 x2 x12 x13 x14 x15 x17 false x102000 x102001 x102002 x102003 x102004 x122000 x122001) else (if x11 = 3 then (Qan.j2 k x0 x2 x12 x13 x14 x15 x17 (!(x114000 == 0) || (!(x114001 == 0))) x102000 x102001 x102002 x102003 x102004 x122000 x122001) else (Qan.j2 k x0 x2 x12 x13 x14 x15 x17 true x102000 x102001 x102002 x102003 x102004 x122000 x122001)))))) else (Qan.j2 k x0 x2 x12 x13 x14 x15 x17 true x102000 x102001 x102002 x102003 x102004 x122000 x122001)) else ((Qas.f x102000 x102001 x102002 x102003 x102004).bind fun t129 => (if t129 = true then (Qan.j2 k x0 x2 x12 x13 x14 x15 x17 false x102000 x102001 x102002 x102003 x102004 x122000 x122001) else (if x11 = 3 then (Qan.j2 k x0 x2 x12 x13 x14 x15 x17 (!(x114000 == 0) || (!(x114001 == 0))) x102000 x102001 x102002 x102003 x102004 x122000 x122001) else (Qan.j2 k x0 x2 x12 x13 x14 x15 x17 true x102000 x102001 x102002 x102003 x102004 x122000 x122001))))))
def Qan.j2 : Nat → List S100 → List Int → Bool → Bool → Bool → Int → Int → Bool → Int → Int → Int → Int → Int → Int → Int → Option Bool
 | 0, _, _, _, _, _, _, _, _, _, _, _, _, _, _, _ => none
 | k + 1, x0, x2, x12, x13, x14, x15, x17, x97, x102000, x102001, x102002, x102003, x102004, x122000, x122001 => if x97 = true then (some false) else ((Qa1.f k x0 x102000 x102001 x102002 x102003 x102004).bind fun t130 => (if t130 = 0 then ((Qav.f k x0 x2).bind fun t131 => (Qan.j3 k x0 x2 x12 x13 x14 x15 x17 t130 (!t131) x102000 x102001 x102002 x102003 x102004 x122000 x122001)) else (Qan.j3 k x0 x2 x12 x13 x14 x15 x17 t130 false x102000 x102001 x102002 x102003 x102004 x122000 x122001)))
def Qan.j3 : Nat → List S100 → List Int → Bool → Bool → Bool → Int → Int → Int → Bool → Int → Int → Int → Int → Int → Int → Int → Option Bool
 | 0, _, _, _, _, _, _, _, _, _, _, _, _, _, _, _, _ => none
 | k + 1, x0, x2, x12, x13, x14, x15, x17, x18, x108, x102000, x102001, x102002, x102003, x102004, x122000, x122001 => if x108 = true then (Qan.j4 k x0 x2 x12 x13 x14 x15 x17 4 x102000 x102001 x102002 x102003 x102004 x122000 x122001) else (Qan.j4 k x0 x2 x12 x13 x14 x15 x17 x18 x102000 x102001 x102002 x102003 x102004 x122000 x122001)
def Qan.j4 : Nat → List S100 → List Int → Bool → Bool → Bool → Int → Int → Int → Int → Int → Int → Int → Int → Int → Int → Option Bool
 | 0, _, _, _, _, _, _, _, _, _, _, _, _, _, _, _ => none
 | k + 1, x0, x2, x12, x13, x14, x15, x17, x18, x102000, x102001, x102002, x102003, x102004, x122000, x122001 => if x18 = 0 then ((Qap.f k x0 x102000 x102001 x102002 x102003 x102004 x2).bind fun bt132 => (if x15 = 0 then (if x17 = 0 then (if (x122000 == bt132.1 && (x122001 == bt132.2)) = true then (if (x12 == (decide (bt132.1 ≥ 0))) = true then (if (x13 == (decide (bt132.2 ≥ 0))) = true then ((Qat.f k x0 x2).bind fun t135 => (if (x14 == (decide (t135 > x102004))) = true then ((Qd.f k).bind fun t136 => (some t136)) else (some false))) else (some false)) else (some false)) else (some false)) else (some false)) else (some false))) else (if x15 = x18 then (if x17 = x18 then (if x12 = true then (some false) else (if x13 = true then (some false) else (if x14 = true then (some false) else (if (x122000 == 0 && (x122001 == 0)) = true then ((Qd.f k).bind fun t137 => (some t137)) else (some false))))) else (some false)) else (some false))
end
def Qan.f (k : Nat) (l0 : List S100) (a1_0 a1_1 a1_2 a1_3 a1_4 : Int) (l2 : List Int) : Option Bool := if (l0.length : Int) > 20 then (Qan.j0 k l0 l2 true a1_0 a1_1 a1_2 a1_3 a1_4) else (Qan.j0 k l0 l2 (decide ((l2.length : Int) > 20)) a1_0 a1_1 a1_2 a1_3 a1_4)
theorem Qan.dead_j1 : ∀ k y0 y1 y2 y3 y4 y5 y6 y7 y9 y10 y11 y12 y13 y14 y15 y16 y17 r, Qan.j1 k y0 y1 y2 y3 y4 y5 y6 y7 true y9 y10 y11 y12 y13 y14 y15 y16 y17 = some r → r = true → False := by
 intro k y0 y1 y2 y3 y4 y5 y6 y7 y9 y10 y11 y12 y13 y14 y15 y16 y17 r h hr
 cases k with
 | zero => simp [Qan.j1] at h
 | succ k => exact absurd ((Option.some.inj (show (some false : Option Bool) = some r from h)).trans hr) (by simp)
theorem Qan.dead_j2 : ∀ k y0 y1 y2 y3 y4 y5 y6 y8 y9 y10 y11 y12 y13 y14 r, Qan.j2 k y0 y1 y2 y3 y4 y5 y6 true y8 y9 y10 y11 y12 y13 y14 = some r → r = true → False := by
 intro k y0 y1 y2 y3 y4 y5 y6 y8 y9 y10 y11 y12 y13 y14 r h hr
 cases k with
 | zero => simp [Qan.j2] at h
 | succ k => exact absurd ((Option.some.inj (show (some false : Option Bool) = some r from h)).trans hr) (by simp)
def Qan.T10 : Bool × List (List Nat × List Nat) := (true, [([], []), ([0], [0]), ([1, 1], [1]), ([2], [2]), ([3, 2], [2, 3]), ([4, 2, 2], [2, 4]), ([5], [5]), ([5], [5]), ([7, 5, 5], [5, 7]), ([6, 8, 5], [5, 6, 8]), ([5, 9, 2], [2, 5, 9]), ([2, 10], [2, 10]), ([11, 8], [11]), ([12], [12]), ([13, 12, 12], [12, 13]), ([14, 12], [12, 14]), ([15, 14, 12], [12, 15]), ([16], [16]), ([17, 16], [16, 17]), ([18, 16, 16], [16, 18]), ([19], [19]), ([19], [19]), ([20, 21, 19], [19, 20, 21]), ([19, 22, 16], [16, 19, 22]), ([16, 23, 12], [12, 16, 23]), ([12, 24], [12, 24])])
def Qan.B10 : List Nat := [0, 1, 3, 7, 15, 31, 63, 63, 191, 511, 1023, 2047, 4095, 8191, 16383, 32767, 65535, 131071, 262143, 524287, 1048575, 1048575, 4194303, 8388607, 16777215, 33554431]
theorem Qan.tab10 : rtab .any (ZG Tryz.f3 10) = Qan.T10 := by kernel_rfl
theorem Qan.bits10 : J0 Qan.T10.2 Qan.B10 = true := by kernel_rfl
def Qan.T18 : Bool × List (List Nat × List Nat) := (true, [([], []), ([0], [0]), ([1], [1]), ([2], [2]), ([3, 2], [2, 3]), ([2, 4], [2, 4]), ([5, 2], [5]), ([6], [6]), ([6], [6]), ([7, 8, 6], [6, 7, 8]), ([6, 9], [6, 9]), ([10, 6], [10]), ([11], [11]), ([11], [11]), ([13, 11], [11, 13]), ([14, 11], [11, 14]), ([12, 15, 11], [11, 12, 15]), ([11, 16], [11, 16]), ([17, 11], [17]), ([18], [18]), ([18], [18]), ([20, 18], [18, 20]), ([21, 18], [18, 21]), ([19, 22, 18], [18, 19, 22]), ([18, 23], [18, 23]), ([24, 18], [24]), ([25], [25]), ([25], [25]), ([25], [25]), ([27, 28, 25, 25], [25, 27, 28]), ([25], [25]), ([30, 25], [25, 30]), ([29, 31, 25], [25, 29, 31]), ([26, 32, 25], [25, 26, 32]), ([25, 33], [25, 33]), ([34, 29], [34]), ([35, 35], [35]), ([35, 36], [35, 36]), ([37, 36, 0, 1, 2, 3, 4, 5, 6, 7, 8, 9, 10, 11, 12, 13, 14, 15, 16, 17, 18, 19, 20, 21, 22, 23, 24, 25, 26, 27, 28, 29, 30, 31, 32, 33, 34, 35, 36, 37], [37])])
def Qan.B18 : List Nat := [0, 1, 3, 7, 15, 31, 63, 127, 127, 511, 1023, 2047, 4095, 4095, 12287, 28671, 65535, 131071, 262143, 524287, 524287, 1572863, 3670015, 8388607, 16777215, 33554431, 67108863, 67108863, 67108863, 469762047, 67108863, 1140850687, 4227858431, 8589934591, 17179869183, 34359738367, 68719476735, 137438953471, 274877906943]
theorem Qan.tab18 : rtab .any (ZG Tryz.f3 18) = Qan.T18 := by kernel_rfl
theorem Qan.bits18 : J0 Qan.T18.2 Qan.B18 = true := by kernel_rfl
set_option maxHeartbeats 8000000 in
set_option maxRecDepth 100000 in
theorem Qan.calls_true (k : Nat) (A0 : Option Addr) (c0 : Nat) (l0 : List S100) (a1_0 a1_1 a1_2 a1_3 a1_4 : Int) (A2 : Option Addr) (c2 : Nat) (l2 : List Int) (r : Bool) (w : World) (hr0 : Kd.C k100 w A0 l0.length l0) (hc0 : l0.length ≤ c0) (hr2 : Kd.C (Kd.int .i64) w A2 l2.length l2) (hc2 : l2.length ≤ c2) (hrt : r = true) (h : Qan.f k l0 a1_0 a1_1 a1_2 a1_3 a1_4 l2 = some r) :
  Calls Tryz.prog 3 #[.slice A0 l0.length c0, .agg #[.int .i64 a1_0, .int .i64 a1_1, .int .i64 a1_2, .int .i64 a1_3, .int .i64 a1_4], .slice A2 l2.length c2] w fun e w' => e = .returned (.bool r) ∧ Below w.heap.size w w' := by
 have hu26 := Tryz.underlying26
 have hu24 := Tryz.underlying24
 have HRT := Qa.mk hrt
 clear hrt
 have HR0 := Qa.mk hr0
 have HC0 := Qa.mk hc0
 clear hr0 hc0
 have HR2 := Qa.mk hr2
 have HC2 := Qa.mk hc2
 clear hr2 hc2
 have HB := Qa.mk (Below.refl w.heap.size w)
 have H : (if (l0.length : Int) > 20 then (Qan.j0 k l0 l2 true a1_0 a1_1 a1_2 a1_3 a1_4) else (Qan.j0 k l0 l2 (decide ((l2.length : Int) > 20)) a1_0 a1_1 a1_2 a1_3 a1_4)) = some r := h
 clear h
 have HC4 := Qa.mk H
 clear H
 go_enter Tryz.func3, Tryz.ntmps3
 go_upto_region 1 with (first | ((with_reducible refine gd 4 ?_); (try (refine QG (by rfl) ?_; dsimp only)); refine bx 4 #[.int .i64 a1_0, .int .i64 a1_1, .int .i64 a1_2, .int .i64 a1_3, .int .i64 a1_4] 26 ?_; intro gb101 hg w5 BK101 hb; have GW101 := gs HB hg; replace HB := bs HB hb; clear hb hg))
 (try simp only [Act.put, List.setIfInBounds_toArray, List.set_cons_zero, List.set_cons_succ])
 go_cut [27] (fun v27 wc => ∃ (kq : Nat) (x27_3 : Bool), v27 = .bool x27_3 ∧ Qa (Qan.j0 kq l0 l2 x27_3 a1_0 a1_1 a1_2 a1_3 a1_4 = some r) ∧ Qa (kq ≤ k) ∧ Qa (wc.heap[gb101]? = some (.cells #[.int .i64 a1_0, .int .i64 a1_1, .int .i64 a1_2, .int .i64 a1_3, .int .i64 a1_4] 26 (0, 0))) ∧ Qa (Below w.heap.size w wc))
 case first =>
  have H := HC4.out
  clear HC4
  by_cases c6 : (l0.length : Int) > 20
  ·
   rw [if_pos c6] at H
   have c6b0 : decide (20 < (l0.length : Int)) = true := decide_eq_true c6
   have c6b1 : decide (20 < l0.length) = true := decide_eq_true (by omega)
   clear c6
   (first | rw [c6b0] | (simp only [QR, QU]; rw [c6b0]) | skip)
   have H' := Qa.mk H
   clear H
   go_wp2
   go_meet
   case rel => exact ⟨_, (true), eS, H', ⟨by first | omega | exact Nat.le_refl _⟩, ⟨pB BK101.out⟩, ⟨pE HB⟩⟩
  ·
   rw [if_neg c6] at H
   have c6b0 : decide (20 < (l0.length : Int)) = false := decide_eq_false c6
   have c6b1 : decide (20 < l0.length) = false := decide_eq_false (by omega)
   clear c6
   (first | rw [c6b0] | (simp only [QR, QU]; rw [c6b0]) | skip)
   have H' := Qa.mk H
   clear H
   go_wp2
   go_meet
   case rel => exact ⟨_, (decide ((l2.length : Int) > 20)), eS, H', ⟨by first | omega | exact Nat.le_refl _⟩, ⟨pB BK101.out⟩, ⟨pE HB⟩⟩
 case rest =>
  as_aux_lemma =>
  clear HC4
  try clear c2
  try clear p2
  try clear c3
  try clear c6
  try clear c6b0
  try clear c6b1
  obtain ⟨kq, x27_3, rfl, HA, HJ3, BK101, HB⟩ := hcut
  cases kq with
  | zero => exact absurd HA.out (by simp [Qan.j0])
  | succ kj3 =>
   have H := HA.out
   clear HA
   simp only [Qan.j0] at H
   by_cases c7 : x27_3 = true
   ·
    subst c7
    rw [if_pos rfl] at H
    obtain ⟨t102, A8, H⟩ := bi H
    obtain rfl := Option.some.inj H
    go_wp2_with (first | ((with_reducible refine gc 15 rfl ?_); refine gL 28 Tryz.func15 #[] ?_; (with_reducible refine (Qd.calls kj3  t102 _ A8.out).mono ?_); rintro e w9 ⟨rfl, hb⟩; refine ⟨_, rfl, ?_⟩; replace BK101 := bb BK101 hb; replace HB := bs HB hb; clear hb))
    go_ret
    exact ⟨eT, pE HB⟩
   ·
    replace c7 := Bool.eq_false_iff.mpr c7
    subst c7
    rw [if_neg (show ¬ (false = true) by decide)] at H
    obtain ⟨t103, A10, H⟩ := bi H
    obtain ⟨t106, A11, H⟩ := bi H
    obtain ⟨t109, A12, H⟩ := bi H
    obtain ⟨⟨t110, t111, t112⟩, A13, H⟩ := bi H
    obtain ⟨⟨t114, t115, t116, t117⟩, A14, H⟩ := bi H
    obtain ⟨⟨t118, t119, t120⟩, A15, H⟩ := bi H
    have HC16 := Qa.mk H
    clear H
    go_upto_region 8 with (first | ((with_reducible refine gc 16 rfl ?_); refine gL 30 Tryz.func16 #[.slice A0 l0.length c0] ?_; (with_reducible refine (Qay.calls _ _ l0 t103 _ ?side1 ?side2 A10.out).mono ?_); (case side1 => exact pC (Kd.C_below HR0.out HB.out)); (case side2 => exact HC0.out); rintro e w17 ⟨v104, rfl, ho0, hb⟩; refine ⟨_, rfl, ?_⟩; have HO105 := rl ho0 HB; replace BK101 := bb BK101 hb; replace HB := bs HB hb; clear hb ho0) | ((with_reducible refine gc 17 rfl ?_); refine gL 32 Tryz.func17 #[.slice A2 l2.length c2] ?_; (with_reducible refine (Qa2.calls _ _ l2 t106 _ ?side1 ?side2 A11.out).mono ?_); (case side1 => exact pC (Kd.C_below HR2.out HB.out)); (case side2 => exact HC2.out); rintro e w18 ⟨v107, rfl, ho0, hb⟩; refine ⟨_, rfl, ?_⟩; replace HO105 := rb HO105 hb; have HO108 := rl ho0 HB; replace BK101 := bb BK101 hb; replace HB := bs HB hb; clear hb ho0; obtain ⟨Ao19, co19, eo19⟩ := Kd.R_slice HO105.out; subst eo19) | ((with_reducible refine gc 18 rfl ?_); refine gL 34 Tryz.func18 #[.slice Ao19 t103.length co19] ?_; (with_reducible refine (Jf.calls _ _ t103 t109 _ ?side1 ?side2 A12.out).mono ?_); (case side1 => exact pC (Kd.R_reads' HO105.out).2.2); (case side2 => exact (Kd.R_reads' HO105.out).2.1); rintro e w20 ⟨rfl, hb⟩; refine ⟨_, rfl, ?_⟩; replace HO105 := rb HO105 hb; replace HO108 := rb HO108 hb; replace BK101 := bb BK101 hb; replace HB := bs HB hb; clear hb; obtain ⟨hcz21_0, hcz21_1, hcz21_2, hcz21_3, hcz21_4, hfz21_0, hfz21_1, hfz21_2, hfz21_3, hfz21_4⟩ := cf5 BK101) | ((with_reducible refine gc 19 rfl ?_); refine gL 37 Tryz.func19 #[.agg #[.int .i64 a1_0, .int .i64 a1_1, .int .i64 a1_2, .int .i64 a1_3, .int .i64 a1_4]] ?_; (with_reducible refine (Zl.calls a1_0 a1_1 a1_2 a1_3 a1_4 t110 t111 t112 _ A13.out).mono ?_); rintro e w22 ⟨rfl, hb⟩; refine ⟨_, rfl, ?_⟩; replace HO105 := rb HO105 hb; replace HO108 := rb HO108 hb; replace BK101 := bb BK101 hb; replace HB := bs HB hb; clear hb) | ((with_reducible refine gd 10 ?_); (try (refine QG (by rfl) ?_; dsimp only)); refine bx 10 #[.int .i64 0, .int .i64 0] 24 ?_; intro gb113 hg w23 hbox hb; replace HO105 := rb HO105 hb; replace HO108 := rb HO108 hb; have BK113 := hbox; have GW113 := gs HB hg; replace HB := bs HB hb; have NB101_113 := nl BK101 hg; have NB113_101 := nr BK101 hg; replace BK101 := bb BK101 hb; clear hb hg; have hnb24 := NB113_101.out; have hnc24 := NB101_113.out; obtain ⟨hcz25_0, hcz25_1, hfz25_0, hfz25_1⟩ := cf2 BK113; obtain ⟨hcz26_0, hcz26_1, hcz26_2, hcz26_3, hcz26_4, hfz26_0, hfz26_1, hfz26_2, hfz26_3, hfz26_4⟩ := cf5 BK101; obtain ⟨Ao27, co27, eo27⟩ := Kd.R_slice HO108.out; subst eo27) | ((with_reducible refine gc 20 rfl ?_); refine gL 44 Tryz.func20 #[.slice Ao19 t103.length co19, .agg #[.int .i64 a1_0, .int .i64 a1_1, .int .i64 a1_2, .int .i64 a1_3, .int .i64 a1_4], .slice Ao27 t106.length co27] ?_; (with_reducible refine (Q0.calls kj3 _ _ t103 a1_0 a1_1 a1_2 a1_3 a1_4 _ _ t106 t114 t115 t116 t117 _ ?side1 ?side2 ?side3 ?side4 A14.out).mono ?_); (case side1 => refine (Kd.R_reads' (e := 100) (base := w.heap.size) (ok := fun k_ => True) (n := t103.length) (c := co19) ?_).2.2; exact (by refine pR ?_; exact (Kd.R_mono (Kd.R_far (p := ⟨gb113, 1, none⟩) (Kd.R_far (p := ⟨gb113, 0, none⟩) (Kd.R_types HO105.out BK113.out (by decide)) (fun _ hk => hk.2) (.int .i64 t110)) (fun _ hk => hk.2) (.int .i64 t111)) (fun _ h_ => h_.1)))); (case side2 => exact (Kd.R_reads' HO105.out).2.1); (case side3 => refine (Kd.R_reads' (e := 3) (base := w.heap.size) (ok := fun k_ => True) (n := t106.length) (c := co27) ?_).2.2; exact (by refine pR ?_; exact (Kd.R_mono (Kd.R_far (p := ⟨gb113, 1, none⟩) (Kd.R_far (p := ⟨gb113, 0, none⟩) (Kd.R_types HO108.out BK113.out (by decide)) (fun _ hk => hk.2) (.int .i64 t110)) (fun _ hk => hk.2) (.int .i64 t111)) (fun _ h_ => h_.1)))); (case side4 => exact (Kd.R_reads' HO108.out).2.1); rintro e w28 ⟨rfl, hb⟩; refine ⟨_, rfl, ?_⟩; replace HO105 := Qa.mk (Kd.R_below (by refine pR ?_; exact (Kd.R_mono (Kd.R_far (p := ⟨gb113, 1, none⟩) (Kd.R_far (p := ⟨gb113, 0, none⟩) (Kd.R_types HO105.out BK113.out (by decide)) (fun _ hk => hk.2) (.int .i64 t110)) (fun _ hk => hk.2) (.int .i64 t111)) (fun _ h_ => h_.1))) hb); replace HO108 := Qa.mk (Kd.R_below (by refine pR ?_; exact (Kd.R_mono (Kd.R_far (p := ⟨gb113, 1, none⟩) (Kd.R_far (p := ⟨gb113, 0, none⟩) (Kd.R_types HO108.out BK113.out (by decide)) (fun _ hk => hk.2) (.int .i64 t110)) (fun _ hk => hk.2) (.int .i64 t111)) (fun _ h_ => h_.1))) hb); replace BK101 := bf BK101 hb; replace BK113 := Qa.mk (QX (g := gb113) (o := .cells #[.int .i64 t110, .int .i64 t111] 24 (0, 0)) (by refine pB ?_; refine Qg (cs := #[.int .i64 t110, .int .i64 0]) ?_ 1 _ rfl; refine pB ?_; refine Qg (cs := #[.int .i64 0, .int .i64 0]) ?_ 0 _ rfl; (with_reducible repeat (first | refine Qt ?_ _ | refine Qh ?_ | refine Qao ?_ _)); exact BK113.out) hb); replace HB := bs HB hb; clear hb; obtain ⟨hcz29_0, hcz29_1, hcz29_2, hcz29_3, hcz29_4, hfz29_0, hfz29_1, hfz29_2, hfz29_3, hfz29_4⟩ := cf5 BK101) | ((with_reducible refine gc 21 rfl ?_); refine gL 53 Tryz.func21 #[.slice Ao19 t103.length co19, .agg #[.int .i64 a1_0, .int .i64 a1_1, .int .i64 a1_2, .int .i64 a1_3, .int .i64 a1_4], .slice Ao27 t106.length co27] ?_; (with_reducible refine (JE.calls kj3 _ _ t103 a1_0 a1_1 a1_2 a1_3 a1_4 _ _ t106 t118 t119 t120 _ ?side1 ?side2 ?side3 ?side4 A15.out).mono ?_); (case side1 => exact pC (Kd.R_reads' HO105.out).2.2); (case side2 => exact (Kd.R_reads' HO105.out).2.1); (case side3 => exact pC (Kd.R_reads' HO108.out).2.2); (case side4 => exact (Kd.R_reads' HO108.out).2.1); rintro e w30 ⟨rfl, hb⟩; refine ⟨_, rfl, ?_⟩; replace HO105 := rb HO105 hb; replace HO108 := rb HO108 hb; replace BK101 := bb BK101 hb; replace BK113 := bb BK113 hb; replace HB := bs HB hb; clear hb) | ((with_reducible refine gd 16 ?_); (try (refine QG (by rfl) ?_; dsimp only)); refine bx 16 #[.int .i64 0, .int .i64 0] 24 ?_; intro gb121 hg w31 hbox hb; replace HO105 := rb HO105 hb; replace HO108 := rb HO108 hb; have BK121 := hbox; have GW121 := gs HB hg; replace HB := bs HB hb; have NB101_121 := nl BK101 hg; have NB121_101 := nr BK101 hg; replace BK101 := bb BK101 hb; have NB113_121 := nl BK113 hg; have NB121_113 := nr BK113 hg; replace BK113 := bb BK113 hb; clear hb hg; have hnb32 := NB121_101.out; have hnc32 := NB101_121.out; have hnb33 := NB121_113.out; have hnc33 := NB113_121.out; obtain ⟨hcz34_0, hcz34_1, hfz34_0, hfz34_1⟩ := cf2 BK121))
    (try simp only [Act.put, List.setIfInBounds_toArray, List.set_cons_zero, List.set_cons_succ])
    go_cut [71] (fun v71 wc => ∃ (kq : Nat) (x71_15 : Bool), v71 = .bool x71_15 ∧ Qa (Qan.j1 kq l0 l2 t112 t114 t115 t116 t117 t120 x71_15 a1_0 a1_1 a1_2 a1_3 a1_4 t110 t111 t118 t119 = some r) ∧ Qa (kq ≤ kj3) ∧ Qa (wc.heap[gb101]? = some (.cells #[.int .i64 a1_0, .int .i64 a1_1, .int .i64 a1_2, .int .i64 a1_3, .int .i64 a1_4] 26 (0, 0))) ∧ Qa (wc.heap[gb113]? = some (.cells #[.int .i64 t110, .int .i64 t111] 24 (0, 0))) ∧ Qa (wc.heap[gb121]? = some (.cells #[.int .i64 t118, .int .i64 t119] 24 (0, 0))) ∧ Qa (Below w.heap.size w wc))
    case first =>
     have H := HC16.out
     clear HC16
     obtain ⟨t122, A35, H⟩ := bi H
     by_cases c36 : t122 = true
     ·
      subst c36
      rw [if_pos rfl] at H
      obtain ⟨t123, A37, H⟩ := bi H
      by_cases c38 : t123 = true
      ·
       subst c38
       rw [if_pos rfl] at H
       obtain ⟨t124, A39, H⟩ := bi H
       have H' := Qa.mk H
       clear H
       go_wp2_with (first | ((with_reducible refine gc 22 rfl ?_); refine gL 58 Tryz.func22 #[.slice Ao19 t103.length co19, .slice A0 l0.length c0] ?_; (with_reducible refine (Qau.calls kj3 _ _ t103 _ _ l0 true _ ?side1 ?side2 ?side3 ?side4 A35.out).mono ?_); (case side1 => refine (Kd.R_reads' (e := 100) (base := w.heap.size) (ok := fun k_ => True) (n := t103.length) (c := co19) ?_).2.2; exact (by refine pR ?_; exact (Kd.R_mono (Kd.R_far (p := ⟨gb121, 1, none⟩) (Kd.R_far (p := ⟨gb121, 0, none⟩) (Kd.R_types HO105.out BK121.out (by decide)) (fun _ hk => hk.2) (.int .i64 t118)) (fun _ hk => hk.2) (.int .i64 t119)) (fun _ h_ => h_.1)))); (case side2 => exact (Kd.R_reads' HO105.out).2.1); (case side3 => exact Kd.C_below HR0.out (pE HB)); (case side4 => exact HC0.out); rintro e w' ⟨rfl, ⟨nd, rfl⟩⟩; refine ⟨_, rfl, ?_⟩) | (go_at_call 23; (with_reducible refine (Qm.calls kj3 _ _ t106 _ _ l2 true _ ?side1 ?side2 ?side3 ?side4 A37.out).mono ?_); (case side1 => refine (Kd.R_reads' (e := 3) (base := w.heap.size) (ok := fun k_ => True) (n := t106.length) (c := co27) ?_).2.2; exact (by refine pR ?_; exact (Kd.R_mono (Kd.R_far (p := ⟨gb121, 1, none⟩) (Kd.R_far (p := ⟨gb121, 0, none⟩) (Kd.R_types HO108.out BK121.out (by decide)) (fun _ hk => hk.2) (.int .i64 t118)) (fun _ hk => hk.2) (.int .i64 t119)) (fun _ h_ => h_.1)))); (case side2 => exact (Kd.R_reads' HO108.out).2.1); (case side3 => exact Kd.C_below HR2.out (pE HB)); (case side4 => exact HC2.out); rintro e w' ⟨rfl, ⟨nd, rfl⟩⟩) | (go_at_call 24; (with_reducible refine (Qaq.calls kj3 _ _ l0 t124 _ ?side1 ?side2 A39.out).mono ?_); (case side1 => exact Kd.C_below HR0.out (pE HB)); (case side2 => exact HC0.out); rintro e w40 ⟨rfl, hb⟩; replace HO105 := Qa.mk (Kd.R_below (by refine pR ?_; exact (Kd.R_mono (Kd.R_far (p := ⟨gb121, 1, none⟩) (Kd.R_far (p := ⟨gb121, 0, none⟩) (Kd.R_types HO105.out BK121.out (by decide)) (fun _ hk => hk.2) (.int .i64 t118)) (fun _ hk => hk.2) (.int .i64 t119)) (fun _ h_ => h_.1))) hb); replace HO108 := Qa.mk (Kd.R_below (by refine pR ?_; exact (Kd.R_mono (Kd.R_far (p := ⟨gb121, 1, none⟩) (Kd.R_far (p := ⟨gb121, 0, none⟩) (Kd.R_types HO108.out BK121.out (by decide)) (fun _ hk => hk.2) (.int .i64 t118)) (fun _ hk => hk.2) (.int .i64 t119)) (fun _ h_ => h_.1))) hb); replace BK101 := bf BK101 hb; replace BK113 := bf BK113 hb; replace BK121 := Qa.mk (QX (g := gb121) (o := .cells #[.int .i64 t118, .int .i64 t119] 24 (0, 0)) (by refine pB ?_; refine Qg (cs := #[.int .i64 t118, .int .i64 0]) ?_ 1 _ rfl; refine pB ?_; refine Qg (cs := #[.int .i64 0, .int .i64 0]) ?_ 0 _ rfl; (with_reducible repeat (first | refine Qt ?_ _ | refine Qh ?_ | refine Qao ?_ _)); exact BK121.out) hb); replace HB := bs HB hb; (try clear hb); (try clear hb2); (try clear hk); (try clear hi)))
       go_meet
       case rel => exact ⟨_, ((t109 != t124)), eS, H', ⟨by have := HJ3.out; first | omega | exact Nat.le_refl _⟩, ⟨pB BK101.out⟩, ⟨pB BK113.out⟩, ⟨pB BK121.out⟩, ⟨pE HB⟩⟩
      ·
       replace c38 := Bool.eq_false_iff.mpr c38
       subst c38
       rw [if_neg (show ¬ (false = true) by decide)] at H
       exact (Qan.dead_j1 _ _ _ _ _ _ _ _ _ _ _ _ _ _ _ _ _ _ _ H HRT.out).elim
     ·
      replace c36 := Bool.eq_false_iff.mpr c36
      subst c36
      rw [if_neg (show ¬ (false = true) by decide)] at H
      exact (Qan.dead_j1 _ _ _ _ _ _ _ _ _ _ _ _ _ _ _ _ _ _ _ H HRT.out).elim
    case rest =>
     as_aux_lemma =>
     clear HC16
     try clear c1
     try clear c2
     try clear p2
     try clear c3
     try clear c6
     try clear c6b0
     try clear c6b1
     try clear c7
     try clear c15
     try clear c16
     try clear c17
     try clear c18
     try clear c19
     try clear c20
     try clear c21
     try clear c22
     try clear c24
     try clear c32
     try clear c33
     try clear c36
     try clear c38
     try clear hcz21_0
     try clear hcz21_1
     try clear hcz21_2
     try clear hcz21_3
     try clear hcz21_4
     try clear hcz25_0
     try clear hcz25_1
     try clear hcz26_0
     try clear hcz26_1
     try clear hcz26_2
     try clear hcz26_3
     try clear hcz26_4
     try clear hcz29_0
     try clear hcz29_1
     try clear hcz29_2
     try clear hcz29_3
     try clear hcz29_4
     try clear hcz34_0
     try clear hcz34_1
     try clear hfz21_0
     try clear hfz21_1
     try clear hfz21_2
     try clear hfz21_3
     try clear hfz21_4
     try clear hfz25_0
     try clear hfz25_1
     try clear hfz26_0
     try clear hfz26_1
     try clear hfz26_2
     try clear hfz26_3
     try clear hfz26_4
     try clear hfz29_0
     try clear hfz29_1
     try clear hfz29_2
     try clear hfz29_3
     try clear hfz29_4
     try clear hfz34_0
     try clear hfz34_1
     try clear p2
     obtain ⟨kq, x71_15, rfl, HA, HJ15, BK101, BK113, BK121, HB⟩ := hcut
     cases kq with
     | zero => exact absurd HA.out (by simp [Qan.j1])
     | succ kj15 =>
      have H := HA.out
      clear HA
      simp only [Qan.j1] at H
      by_cases c41 : x71_15 = true
      ·
       subst c41
       rw [if_pos rfl] at H
       exact absurd ((Option.some.inj H).trans HRT.out) (by simp)
      ·
       replace c41 := Bool.eq_false_iff.mpr c41
       subst c41
       rw [if_neg (show ¬ (false = true) by decide)] at H
       have HC42 := Qa.mk H
       clear H
       go_upto_region 10 with (fail)
       go_cut [97] (fun v97 wc => ∃ (kq : Nat) (x97_41 : Bool), v97 = .bool x97_41 ∧ Qa (Qan.j2 kq l0 l2 t114 t115 t116 t117 t120 x97_41 a1_0 a1_1 a1_2 a1_3 a1_4 t118 t119 = some r) ∧ Qa (kq ≤ kj15) ∧ Qa (wc.heap[gb101]? = some (.cells #[.int .i64 a1_0, .int .i64 a1_1, .int .i64 a1_2, .int .i64 a1_3, .int .i64 a1_4] 26 (0, 0))) ∧ Qa (wc.heap[gb113]? = some (.cells #[.int .i64 t110, .int .i64 t111] 24 (0, 0))) ∧ Qa (wc.heap[gb121]? = some (.cells #[.int .i64 t118, .int .i64 t119] 24 (0, 0))) ∧ Qa (Below w.heap.size w wc))
       case first =>
        have H := HC42.out
        clear HC42
        obtain ⟨t125, A43, H⟩ := bi H
        by_cases c44 : t125 = true
        ·
         subst c44
         rw [if_pos rfl] at H
         by_cases c45 : t112 = 0
         ·
          rw [if_pos c45] at H
          have c45b0 : (t112 == 0) = true := beq_iff_eq.mpr c45
          have c45b1 : (t112 != 0) = false := bne_eq_false_iff_eq.mpr c45
          clear c45
          (first | rw [c45b0] | (simp only [QR, QU]; rw [c45b0]) | skip)
          obtain ⟨⟨t126, t127⟩, A46, H⟩ := bi H
          by_cases c47 : (!(t110 == t126) || (!(t111 == t127))) = true
          ·
           rw [if_pos c47] at H
           have c47b0 : (!(t110 == t126) || (!(t111 == t127))) = true := c47
           clear c47
           exact (Qan.dead_j2 _ _ _ _ _ _ _ _ _ _ _ _ _ _ _ _ H HRT.out).elim
          ·
           rw [if_neg c47] at H
           have c47b0 : (!(t110 == t126) || (!(t111 == t127))) = false := by simpa using c47
           clear c47
           obtain ⟨t128, A48, H⟩ := bi H
           by_cases c49 : t128 = true
           ·
            subst c49
            rw [if_pos rfl] at H
            have H' := Qa.mk H
            clear H
            try go_wp2
            replace BK101 := Qa.mk (Qh BK101.out)
            replace BK113 := Qa.mk (Qh BK113.out)
            replace BK121 := Qa.mk (Qh BK121.out)
            replace HB := Qa.mk (QM HB.out)
            refine JS (n := 26) (S := fun w' => w'.cell? ⟨gb101, 0, none⟩ = some (.int .i64 a1_0) ∧ w'.cell? ⟨gb101, 1, none⟩ = some (.int .i64 a1_1) ∧ w'.cell? ⟨gb101, 2, none⟩ = some (.int .i64 a1_2) ∧ w'.cell? ⟨gb101, 3, none⟩ = some (.int .i64 a1_3) ∧ w'.cell? ⟨gb101, 4, none⟩ = some (.int .i64 a1_4) ∧ w'.cell? ⟨gb113, 0, none⟩ = some (.int .i64 t110) ∧ w'.cell? ⟨gb113, 1, none⟩ = some (.int .i64 t111)) (ds := []) #[false, false, false, false, false, false, false, false, false, false, false, false, false, false, false, false, false, false, false, false, false, false, false, false, false, false] (by kernel_rfl) rfl rfl ⟨(Qb BK101.out 0).trans rfl, (Qb BK101.out 1).trans rfl, (Qb BK101.out 2).trans rfl, (Qb BK101.out 3).trans rfl, (Qb BK101.out 4).trans rfl, (Qb BK113.out 0).trans rfl, (Qb BK113.out 1).trans rfl⟩ (fun hHeld => ?_); refine Jk Qan.tab10 Qan.bits10 (fun HT_ HW_ => ?_)
            generalize wc.drew = w50 at BK101 BK113 BK121 HB hHeld ⊢
            refine tk 0 72 hHeld ?_
            refine on 1 (fun K hK => ?_)
            refine gO Tryz.func25 #[.agg #[.int .i64 a1_0, .int .i64 a1_1, .int .i64 a1_2, .int .i64 a1_3, .int .i64 a1_4]] ?_
            with_reducible refine (Qas.calls a1_0 a1_1 a1_2 a1_3 a1_4 true _ A43.out).mono ?_
            rintro e w51 ⟨rfl, hb⟩
            refine ⟨_, rfl, ?_⟩
            replace BK101 := bb BK101 hb
            replace BK113 := bb BK113 hb
            replace BK121 := bb BK121 hb
            replace HB := bs HB hb
            (try clear hb)
            (try clear hb2)
            (try clear hk)
            (try clear hi)
            refine hK.out _ _ ⟨(Qb BK101.out 0).trans rfl, (Qb BK101.out 1).trans rfl, (Qb BK101.out 2).trans rfl, (Qb BK101.out 3).trans rfl, (Qb BK101.out 4).trans rfl, (Qb BK113.out 0).trans rfl, (Qb BK113.out 1).trans rfl⟩ (fun hHeld => ?_)
            clear hK K
            refine QY (a' := ?_) ?_ ?_
            rotate_left
            ·
             show Act.put _ (some 73) _ = _
             simp only [Act.put, List.setIfInBounds_toArray, List.set_cons_zero, List.set_cons_succ, QR, QU]
             rfl
            refine pu 2 74 ?_
            refine pu 3 75 ?_
            refine pu 4 76 ?_
            refine pu 5 77 ?_
            refine tk 6 78 hHeld ?_
            refine tk 7 79 hHeld ?_
            refine on 8 (fun K hK => ?_)
            refine gO Tryz.func26 #[.agg #[.int .i64 a1_0, .int .i64 a1_1, .int .i64 a1_2, .int .i64 a1_3, .int .i64 a1_4]] ?_
            with_reducible refine (Qar.calls a1_0 a1_1 a1_2 a1_3 a1_4 t126 t127 _ A46.out).mono ?_
            rintro e w52 ⟨rfl, hb⟩
            refine ⟨_, rfl, ?_⟩
            replace BK101 := bb BK101 hb
            replace BK113 := bb BK113 hb
            replace BK121 := bb BK121 hb
            replace HB := bs HB hb
            (try clear hb)
            (try clear hb2)
            (try clear hk)
            (try clear hi)
            refine hK.out _ _ ⟨(Qb BK101.out 0).trans rfl, (Qb BK101.out 1).trans rfl, (Qb BK101.out 2).trans rfl, (Qb BK101.out 3).trans rfl, (Qb BK101.out 4).trans rfl, (Qb BK113.out 0).trans rfl, (Qb BK113.out 1).trans rfl⟩ (fun hHeld => ?_)
            clear hK K
            refine QY (a' := ?_) ?_ ?_
            rotate_left
            ·
             show Act.put _ (some 80) _ = _
             simp only [Act.put, List.setIfInBounds_toArray, List.set_cons_zero, List.set_cons_succ, QR, QU]
             rfl
            refine pu 9 81 ?_
            refine pu 10 82 ?_
            refine pu 11 83 ?_
            refine pu 12 84 ?_
            refine tk 13 85 hHeld ?_
            refine on 14 (fun K hK => ?_)
            refine gO Tryz.func25 #[.agg #[.int .i64 a1_0, .int .i64 a1_1, .int .i64 a1_2, .int .i64 a1_3, .int .i64 a1_4]] ?_
            with_reducible refine (Qas.calls a1_0 a1_1 a1_2 a1_3 a1_4 true _ A48.out).mono ?_
            rintro e w53 ⟨rfl, hb⟩
            refine ⟨_, rfl, ?_⟩
            replace BK101 := bb BK101 hb
            replace BK113 := bb BK113 hb
            replace BK121 := bb BK121 hb
            replace HB := bs HB hb
            (try clear hb)
            (try clear hb2)
            (try clear hk)
            (try clear hi)
            refine hK.out _ _ ⟨(Qb BK101.out 0).trans rfl, (Qb BK101.out 1).trans rfl, (Qb BK101.out 2).trans rfl, (Qb BK101.out 3).trans rfl, (Qb BK101.out 4).trans rfl, (Qb BK113.out 0).trans rfl, (Qb BK113.out 1).trans rfl⟩ (fun hHeld => ?_)
            clear hK K
            refine QY (a' := ?_) ?_ ?_
            rotate_left
            ·
             show Act.put _ (some 86) _ = _
             simp only [Act.put, List.setIfInBounds_toArray, List.set_cons_zero, List.set_cons_succ, QR, QU]
             rfl
            refine pu 15 87 ?_
            refine pu 16 88 ?_
            refine pd 17 89 ?_
            refine pd 18 90 ?_
            refine pd 19 91 ?_
            refine pd 20 92 ?_
            refine pd 21 93 ?_
            refine pd 22 94 ?_
            refine pd 23 95 ?_
            refine pu 24 96 ?_
            refine pu 25 97 ?_
            refine JD (JM HT_.out (by kernel_rfl)) ?_
            try go_wp2
            go_meet
            case rel => exact ⟨_, (false), eS, H', ⟨by have := HJ3.out; have := HJ15.out; first | omega | exact Nat.le_refl _⟩, ⟨pB BK101.out⟩, ⟨pB BK113.out⟩, ⟨pB BK121.out⟩, ⟨pE HB⟩⟩
           ·
            replace c49 := Bool.eq_false_iff.mpr c49
            subst c49
            rw [if_neg (show ¬ (false = true) by decide)] at H
            by_cases c54 : t112 = 3
            ·
             rw [if_pos c54] at H
             have c54b0 : (t112 == 3) = true := beq_iff_eq.mpr c54
             have c54b1 : (t112 != 3) = false := bne_eq_false_iff_eq.mpr c54
             clear c54
             have H' := Qa.mk H
             clear H
             try go_wp2
             replace BK101 := Qa.mk (Qh BK101.out)
             replace BK113 := Qa.mk (Qh BK113.out)
             replace BK121 := Qa.mk (Qh BK121.out)
             replace HB := Qa.mk (QM HB.out)
             refine JS (n := 26) (S := fun w' => w'.cell? ⟨gb101, 0, none⟩ = some (.int .i64 a1_0) ∧ w'.cell? ⟨gb101, 1, none⟩ = some (.int .i64 a1_1) ∧ w'.cell? ⟨gb101, 2, none⟩ = some (.int .i64 a1_2) ∧ w'.cell? ⟨gb101, 3, none⟩ = some (.int .i64 a1_3) ∧ w'.cell? ⟨gb101, 4, none⟩ = some (.int .i64 a1_4) ∧ w'.cell? ⟨gb113, 0, none⟩ = some (.int .i64 t110) ∧ w'.cell? ⟨gb113, 1, none⟩ = some (.int .i64 t111)) (ds := []) #[false, false, false, false, false, false, false, false, false, false, false, false, false, false, false, false, false, false, false, false, false, false, false, false, false, false] (by kernel_rfl) rfl rfl ⟨(Qb BK101.out 0).trans rfl, (Qb BK101.out 1).trans rfl, (Qb BK101.out 2).trans rfl, (Qb BK101.out 3).trans rfl, (Qb BK101.out 4).trans rfl, (Qb BK113.out 0).trans rfl, (Qb BK113.out 1).trans rfl⟩ (fun hHeld => ?_); refine Jk Qan.tab10 Qan.bits10 (fun HT_ HW_ => ?_)
             generalize wc.drew = w55 at BK101 BK113 BK121 HB hHeld ⊢
             refine tk 0 72 hHeld ?_
             refine on 1 (fun K hK => ?_)
             refine gO Tryz.func25 #[.agg #[.int .i64 a1_0, .int .i64 a1_1, .int .i64 a1_2, .int .i64 a1_3, .int .i64 a1_4]] ?_
             with_reducible refine (Qas.calls a1_0 a1_1 a1_2 a1_3 a1_4 true _ A43.out).mono ?_
             rintro e w56 ⟨rfl, hb⟩
             refine ⟨_, rfl, ?_⟩
             replace BK101 := bb BK101 hb
             replace BK113 := bb BK113 hb
             replace BK121 := bb BK121 hb
             replace HB := bs HB hb
             (try clear hb)
             (try clear hb2)
             (try clear hk)
             (try clear hi)
             refine hK.out _ _ ⟨(Qb BK101.out 0).trans rfl, (Qb BK101.out 1).trans rfl, (Qb BK101.out 2).trans rfl, (Qb BK101.out 3).trans rfl, (Qb BK101.out 4).trans rfl, (Qb BK113.out 0).trans rfl, (Qb BK113.out 1).trans rfl⟩ (fun hHeld => ?_)
             clear hK K
             refine QY (a' := ?_) ?_ ?_
             rotate_left
             ·
              show Act.put _ (some 73) _ = _
              simp only [Act.put, List.setIfInBounds_toArray, List.set_cons_zero, List.set_cons_succ, QR, QU]
              rfl
             refine pu 2 74 ?_
             refine pu 3 75 ?_
             refine pu 4 76 ?_
             refine pu 5 77 ?_
             refine tk 6 78 hHeld ?_
             refine tk 7 79 hHeld ?_
             refine on 8 (fun K hK => ?_)
             refine gO Tryz.func26 #[.agg #[.int .i64 a1_0, .int .i64 a1_1, .int .i64 a1_2, .int .i64 a1_3, .int .i64 a1_4]] ?_
             with_reducible refine (Qar.calls a1_0 a1_1 a1_2 a1_3 a1_4 t126 t127 _ A46.out).mono ?_
             rintro e w57 ⟨rfl, hb⟩
             refine ⟨_, rfl, ?_⟩
             replace BK101 := bb BK101 hb
             replace BK113 := bb BK113 hb
             replace BK121 := bb BK121 hb
             replace HB := bs HB hb
             (try clear hb)
             (try clear hb2)
             (try clear hk)
             (try clear hi)
             refine hK.out _ _ ⟨(Qb BK101.out 0).trans rfl, (Qb BK101.out 1).trans rfl, (Qb BK101.out 2).trans rfl, (Qb BK101.out 3).trans rfl, (Qb BK101.out 4).trans rfl, (Qb BK113.out 0).trans rfl, (Qb BK113.out 1).trans rfl⟩ (fun hHeld => ?_)
             clear hK K
             refine QY (a' := ?_) ?_ ?_
             rotate_left
             ·
              show Act.put _ (some 80) _ = _
              simp only [Act.put, List.setIfInBounds_toArray, List.set_cons_zero, List.set_cons_succ, QR, QU]
              rfl
             refine pu 9 81 ?_
             refine pu 10 82 ?_
             refine pu 11 83 ?_
             refine pu 12 84 ?_
             refine tk 13 85 hHeld ?_
             refine on 14 (fun K hK => ?_)
             refine gO Tryz.func25 #[.agg #[.int .i64 a1_0, .int .i64 a1_1, .int .i64 a1_2, .int .i64 a1_3, .int .i64 a1_4]] ?_
             with_reducible refine (Qas.calls a1_0 a1_1 a1_2 a1_3 a1_4 false _ A48.out).mono ?_
             rintro e w58 ⟨rfl, hb⟩
             refine ⟨_, rfl, ?_⟩
             replace BK101 := bb BK101 hb
             replace BK113 := bb BK113 hb
             replace BK121 := bb BK121 hb
             replace HB := bs HB hb
             (try clear hb)
             (try clear hb2)
             (try clear hk)
             (try clear hi)
             refine hK.out _ _ ⟨(Qb BK101.out 0).trans rfl, (Qb BK101.out 1).trans rfl, (Qb BK101.out 2).trans rfl, (Qb BK101.out 3).trans rfl, (Qb BK101.out 4).trans rfl, (Qb BK113.out 0).trans rfl, (Qb BK113.out 1).trans rfl⟩ (fun hHeld => ?_)
             clear hK K
             refine QY (a' := ?_) ?_ ?_
             rotate_left
             ·
              show Act.put _ (some 86) _ = _
              simp only [Act.put, List.setIfInBounds_toArray, List.set_cons_zero, List.set_cons_succ, QR, QU]
              rfl
             refine pu 15 87 ?_
             refine pu 16 88 ?_
             refine pu 17 89 ?_
             refine pu 18 90 ?_
             refine pu 19 91 ?_
             refine pu 21 93 ?_
             refine tk 20 92 hHeld ?_
             refine pu 22 94 ?_
             refine pu 23 95 ?_
             refine pu 24 96 ?_
             refine pu 25 97 ?_
             refine JD (JM HT_.out (by kernel_rfl)) ?_
             try go_wp2
             go_meet
             case rel => exact ⟨_, ((!(t110 == 0) || (!(t111 == 0)))), eS, H', ⟨by have := HJ3.out; have := HJ15.out; first | omega | exact Nat.le_refl _⟩, ⟨pB BK101.out⟩, ⟨pB BK113.out⟩, ⟨pB BK121.out⟩, ⟨pE HB⟩⟩
            ·
             rw [if_neg c54] at H
             have c54b0 : (t112 == 3) = false := beq_eq_false_iff_ne.mpr c54
             have c54b1 : (t112 != 3) = true := bne_iff_ne.mpr c54
             exact (Qan.dead_j2 _ _ _ _ _ _ _ _ _ _ _ _ _ _ _ _ H HRT.out).elim
         ·
          rw [if_neg c45] at H
          have c45b0 : (t112 == 0) = false := beq_eq_false_iff_ne.mpr c45
          have c45b1 : (t112 != 0) = true := bne_iff_ne.mpr c45
          (first | rw [c45b0] | (simp only [QR, QU]; rw [c45b0]) | skip)
          exact (Qan.dead_j2 _ _ _ _ _ _ _ _ _ _ _ _ _ _ _ _ H HRT.out).elim
        ·
         replace c44 := Bool.eq_false_iff.mpr c44
         subst c44
         rw [if_neg (show ¬ (false = true) by decide)] at H
         obtain ⟨t129, A59, H⟩ := bi H
         by_cases c60 : t129 = true
         ·
          subst c60
          rw [if_pos rfl] at H
          have H' := Qa.mk H
          clear H
          try go_wp2
          replace BK101 := Qa.mk (Qh BK101.out)
          replace BK113 := Qa.mk (Qh BK113.out)
          replace BK121 := Qa.mk (Qh BK121.out)
          replace HB := Qa.mk (QM HB.out)
          refine JS (n := 26) (S := fun w' => w'.cell? ⟨gb101, 0, none⟩ = some (.int .i64 a1_0) ∧ w'.cell? ⟨gb101, 1, none⟩ = some (.int .i64 a1_1) ∧ w'.cell? ⟨gb101, 2, none⟩ = some (.int .i64 a1_2) ∧ w'.cell? ⟨gb101, 3, none⟩ = some (.int .i64 a1_3) ∧ w'.cell? ⟨gb101, 4, none⟩ = some (.int .i64 a1_4)) (ds := []) #[false, false, false, false, false, false, false, false, false, false, false, false, false, false, false, false, false, false, false, false, false, false, false, false, false, false] (by kernel_rfl) rfl rfl ⟨(Qb BK101.out 0).trans rfl, (Qb BK101.out 1).trans rfl, (Qb BK101.out 2).trans rfl, (Qb BK101.out 3).trans rfl, (Qb BK101.out 4).trans rfl⟩ (fun hHeld => ?_); refine Jk Qan.tab10 Qan.bits10 (fun HT_ HW_ => ?_)
          generalize wc.drew = w61 at BK101 BK113 BK121 HB hHeld ⊢
          refine tk 0 72 hHeld ?_
          refine on 1 (fun K hK => ?_)
          refine gO Tryz.func25 #[.agg #[.int .i64 a1_0, .int .i64 a1_1, .int .i64 a1_2, .int .i64 a1_3, .int .i64 a1_4]] ?_
          with_reducible refine (Qas.calls a1_0 a1_1 a1_2 a1_3 a1_4 false _ A43.out).mono ?_
          rintro e w62 ⟨rfl, hb⟩
          refine ⟨_, rfl, ?_⟩
          replace BK101 := bb BK101 hb
          replace BK113 := bb BK113 hb
          replace BK121 := bb BK121 hb
          replace HB := bs HB hb
          (try clear hb)
          (try clear hb2)
          (try clear hk)
          (try clear hi)
          refine hK.out _ _ ⟨(Qb BK101.out 0).trans rfl, (Qb BK101.out 1).trans rfl, (Qb BK101.out 2).trans rfl, (Qb BK101.out 3).trans rfl, (Qb BK101.out 4).trans rfl⟩ (fun hHeld => ?_)
          clear hK K
          refine QY (a' := ?_) ?_ ?_
          rotate_left
          ·
           show Act.put _ (some 73) _ = _
           simp only [Act.put, List.setIfInBounds_toArray, List.set_cons_zero, List.set_cons_succ, QR, QU]
           rfl
          refine pu 2 74 ?_
          refine pd 3 75 ?_
          refine pd 4 76 ?_
          refine pd 5 77 ?_
          refine pd 6 78 ?_
          refine pd 7 79 ?_
          refine pd 8 80 ?_
          refine pd 9 81 ?_
          refine pd 10 82 ?_
          refine pu 11 83 ?_
          refine pu 12 84 ?_
          refine tk 13 85 hHeld ?_
          refine on 14 (fun K hK => ?_)
          refine gO Tryz.func25 #[.agg #[.int .i64 a1_0, .int .i64 a1_1, .int .i64 a1_2, .int .i64 a1_3, .int .i64 a1_4]] ?_
          with_reducible refine (Qas.calls a1_0 a1_1 a1_2 a1_3 a1_4 true _ A59.out).mono ?_
          rintro e w63 ⟨rfl, hb⟩
          refine ⟨_, rfl, ?_⟩
          replace BK101 := bb BK101 hb
          replace BK113 := bb BK113 hb
          replace BK121 := bb BK121 hb
          replace HB := bs HB hb
          (try clear hb)
          (try clear hb2)
          (try clear hk)
          (try clear hi)
          refine hK.out _ _ ⟨(Qb BK101.out 0).trans rfl, (Qb BK101.out 1).trans rfl, (Qb BK101.out 2).trans rfl, (Qb BK101.out 3).trans rfl, (Qb BK101.out 4).trans rfl⟩ (fun hHeld => ?_)
          clear hK K
          refine QY (a' := ?_) ?_ ?_
          rotate_left
          ·
           show Act.put _ (some 86) _ = _
           simp only [Act.put, List.setIfInBounds_toArray, List.set_cons_zero, List.set_cons_succ, QR, QU]
           rfl
          refine pu 15 87 ?_
          refine pu 16 88 ?_
          refine pd 17 89 ?_
          refine pd 18 90 ?_
          refine pd 19 91 ?_
          refine pd 20 92 ?_
          refine pd 21 93 ?_
          refine pd 22 94 ?_
          refine pd 23 95 ?_
          refine pu 24 96 ?_
          refine pu 25 97 ?_
          refine JD (JM HT_.out (by kernel_rfl)) ?_
          try go_wp2
          go_meet
          case rel => exact ⟨_, (false), eS, H', ⟨by have := HJ3.out; have := HJ15.out; first | omega | exact Nat.le_refl _⟩, ⟨pB BK101.out⟩, ⟨pB BK113.out⟩, ⟨pB BK121.out⟩, ⟨pE HB⟩⟩
         ·
          replace c60 := Bool.eq_false_iff.mpr c60
          subst c60
          rw [if_neg (show ¬ (false = true) by decide)] at H
          by_cases c64 : t112 = 3
          ·
           rw [if_pos c64] at H
           have c64b0 : (t112 == 3) = true := beq_iff_eq.mpr c64
           have c64b1 : (t112 != 3) = false := bne_eq_false_iff_eq.mpr c64
           clear c64
           have H' := Qa.mk H
           clear H
           try go_wp2
           replace BK101 := Qa.mk (Qh BK101.out)
           replace BK113 := Qa.mk (Qh BK113.out)
           replace BK121 := Qa.mk (Qh BK121.out)
           replace HB := Qa.mk (QM HB.out)
           refine JS (n := 26) (S := fun w' => w'.cell? ⟨gb101, 0, none⟩ = some (.int .i64 a1_0) ∧ w'.cell? ⟨gb101, 1, none⟩ = some (.int .i64 a1_1) ∧ w'.cell? ⟨gb101, 2, none⟩ = some (.int .i64 a1_2) ∧ w'.cell? ⟨gb101, 3, none⟩ = some (.int .i64 a1_3) ∧ w'.cell? ⟨gb101, 4, none⟩ = some (.int .i64 a1_4) ∧ w'.cell? ⟨gb113, 0, none⟩ = some (.int .i64 t110) ∧ w'.cell? ⟨gb113, 1, none⟩ = some (.int .i64 t111)) (ds := []) #[false, false, false, false, false, false, false, false, false, false, false, false, false, false, false, false, false, false, false, false, false, false, false, false, false, false] (by kernel_rfl) rfl rfl ⟨(Qb BK101.out 0).trans rfl, (Qb BK101.out 1).trans rfl, (Qb BK101.out 2).trans rfl, (Qb BK101.out 3).trans rfl, (Qb BK101.out 4).trans rfl, (Qb BK113.out 0).trans rfl, (Qb BK113.out 1).trans rfl⟩ (fun hHeld => ?_); refine Jk Qan.tab10 Qan.bits10 (fun HT_ HW_ => ?_)
           generalize wc.drew = w65 at BK101 BK113 BK121 HB hHeld ⊢
           refine tk 0 72 hHeld ?_
           refine on 1 (fun K hK => ?_)
           refine gO Tryz.func25 #[.agg #[.int .i64 a1_0, .int .i64 a1_1, .int .i64 a1_2, .int .i64 a1_3, .int .i64 a1_4]] ?_
           with_reducible refine (Qas.calls a1_0 a1_1 a1_2 a1_3 a1_4 false _ A43.out).mono ?_
           rintro e w66 ⟨rfl, hb⟩
           refine ⟨_, rfl, ?_⟩
           replace BK101 := bb BK101 hb
           replace BK113 := bb BK113 hb
           replace BK121 := bb BK121 hb
           replace HB := bs HB hb
           (try clear hb)
           (try clear hb2)
           (try clear hk)
           (try clear hi)
           refine hK.out _ _ ⟨(Qb BK101.out 0).trans rfl, (Qb BK101.out 1).trans rfl, (Qb BK101.out 2).trans rfl, (Qb BK101.out 3).trans rfl, (Qb BK101.out 4).trans rfl, (Qb BK113.out 0).trans rfl, (Qb BK113.out 1).trans rfl⟩ (fun hHeld => ?_)
           clear hK K
           refine QY (a' := ?_) ?_ ?_
           rotate_left
           ·
            show Act.put _ (some 73) _ = _
            simp only [Act.put, List.setIfInBounds_toArray, List.set_cons_zero, List.set_cons_succ, QR, QU]
            rfl
           refine pu 2 74 ?_
           refine pd 3 75 ?_
           refine pd 4 76 ?_
           refine pd 5 77 ?_
           refine pd 6 78 ?_
           refine pd 7 79 ?_
           refine pd 8 80 ?_
           refine pd 9 81 ?_
           refine pd 10 82 ?_
           refine pu 11 83 ?_
           refine pu 12 84 ?_
           refine tk 13 85 hHeld ?_
           refine on 14 (fun K hK => ?_)
           refine gO Tryz.func25 #[.agg #[.int .i64 a1_0, .int .i64 a1_1, .int .i64 a1_2, .int .i64 a1_3, .int .i64 a1_4]] ?_
           with_reducible refine (Qas.calls a1_0 a1_1 a1_2 a1_3 a1_4 false _ A59.out).mono ?_
           rintro e w67 ⟨rfl, hb⟩
           refine ⟨_, rfl, ?_⟩
           replace BK101 := bb BK101 hb
           replace BK113 := bb BK113 hb
           replace BK121 := bb BK121 hb
           replace HB := bs HB hb
           (try clear hb)
           (try clear hb2)
           (try clear hk)
           (try clear hi)
           refine hK.out _ _ ⟨(Qb BK101.out 0).trans rfl, (Qb BK101.out 1).trans rfl, (Qb BK101.out 2).trans rfl, (Qb BK101.out 3).trans rfl, (Qb BK101.out 4).trans rfl, (Qb BK113.out 0).trans rfl, (Qb BK113.out 1).trans rfl⟩ (fun hHeld => ?_)
           clear hK K
           refine QY (a' := ?_) ?_ ?_
           rotate_left
           ·
            show Act.put _ (some 86) _ = _
            simp only [Act.put, List.setIfInBounds_toArray, List.set_cons_zero, List.set_cons_succ, QR, QU]
            rfl
           refine pu 15 87 ?_
           refine pu 16 88 ?_
           refine pu 17 89 ?_
           refine pu 18 90 ?_
           refine pu 19 91 ?_
           refine pu 21 93 ?_
           refine tk 20 92 hHeld ?_
           refine pu 22 94 ?_
           refine pu 23 95 ?_
           refine pu 24 96 ?_
           refine pu 25 97 ?_
           refine JD (JM HT_.out (by kernel_rfl)) ?_
           try go_wp2
           go_meet
           case rel => exact ⟨_, ((!(t110 == 0) || (!(t111 == 0)))), eS, H', ⟨by have := HJ3.out; have := HJ15.out; first | omega | exact Nat.le_refl _⟩, ⟨pB BK101.out⟩, ⟨pB BK113.out⟩, ⟨pB BK121.out⟩, ⟨pE HB⟩⟩
          ·
           rw [if_neg c64] at H
           have c64b0 : (t112 == 3) = false := beq_eq_false_iff_ne.mpr c64
           have c64b1 : (t112 != 3) = true := bne_iff_ne.mpr c64
           exact (Qan.dead_j2 _ _ _ _ _ _ _ _ _ _ _ _ _ _ _ _ H HRT.out).elim
       case rest =>
        as_aux_lemma =>
        clear HC42
        try clear c2
        try clear p2
        try clear c4
        try clear c5
        try clear c6
        try clear c25
        try clear c44
        try clear c45
        try clear c45b0
        try clear c45b1
        try clear c54
        try clear c54b0
        try clear c54b1
        try clear c60
        try clear c64
        try clear c64b0
        try clear c64b1
        obtain ⟨kq, x97_41, rfl, HA, HJ41, BK101, BK113, BK121, HB⟩ := hcut
        cases kq with
        | zero => exact absurd HA.out (by simp [Qan.j2])
        | succ kj41 =>
         have H := HA.out
         clear HA
         simp only [Qan.j2] at H
         by_cases c68 : x97_41 = true
         ·
          subst c68
          rw [if_pos rfl] at H
          exact absurd ((Option.some.inj H).trans HRT.out) (by simp)
         ·
          replace c68 := Bool.eq_false_iff.mpr c68
          subst c68
          rw [if_neg (show ¬ (false = true) by decide)] at H
          obtain ⟨t130, A69, H⟩ := bi H
          have HC70 := Qa.mk H
          clear H
          have hnb71 := NB101_113.out
          have hnc71 := NB113_101.out
          have hnb72 := NB101_121.out
          have hnc72 := NB121_101.out
          obtain ⟨hcz73_0, hcz73_1, hcz73_2, hcz73_3, hcz73_4, hfz73_0, hfz73_1, hfz73_2, hfz73_3, hfz73_4⟩ := cf5 BK101
          go_upto_region 13 with (first | ((with_reducible refine gc 27 rfl ?_); refine gL 100 Tryz.func27 #[.slice A0 l0.length c0, .agg #[.int .i64 a1_0, .int .i64 a1_1, .int .i64 a1_2, .int .i64 a1_3, .int .i64 a1_4]] ?_; (with_reducible refine (Qa1.calls kj41 _ _ l0 a1_0 a1_1 a1_2 a1_3 a1_4 t130 _ ?side1 ?side2 A69.out).mono ?_); (case side1 => exact pC (Kd.C_below HR0.out HB.out)); (case side2 => exact HC0.out); rintro e w74 ⟨rfl, hb⟩; refine ⟨_, rfl, ?_⟩; replace BK101 := bb BK101 hb; replace BK113 := bb BK113 hb; replace BK121 := bb BK121 hb; replace HB := bs HB hb; clear hb))
          (try simp only [Act.put, List.setIfInBounds_toArray, List.set_cons_zero, List.set_cons_succ])
          go_cut [108] (fun v108 wc => ∃ (kq : Nat) (x108_69 : Bool), v108 = .bool x108_69 ∧ Qa (Qan.j3 kq l0 l2 t114 t115 t116 t117 t120 t130 x108_69 a1_0 a1_1 a1_2 a1_3 a1_4 t118 t119 = some r) ∧ Qa (kq ≤ kj41) ∧ Qa (wc.heap[gb101]? = some (.cells #[.int .i64 a1_0, .int .i64 a1_1, .int .i64 a1_2, .int .i64 a1_3, .int .i64 a1_4] 26 (0, 0))) ∧ Qa (wc.heap[gb113]? = some (.cells #[.int .i64 t110, .int .i64 t111] 24 (0, 0))) ∧ Qa (wc.heap[gb121]? = some (.cells #[.int .i64 t118, .int .i64 t119] 24 (0, 0))) ∧ Qa (Below w.heap.size w wc))
          case first =>
           have H := HC70.out
           clear HC70
           by_cases c75 : t130 = 0
           ·
            rw [if_pos c75] at H
            have c75b0 : (t130 == 0) = true := beq_iff_eq.mpr c75
            have c75b1 : (t130 != 0) = false := bne_eq_false_iff_eq.mpr c75
            clear c75
            (first | rw [c75b0] | (simp only [QR, QU]; rw [c75b0]) | skip)
            obtain ⟨t131, A76, H⟩ := bi H
            have H' := Qa.mk H
            clear H
            go_wp2_with (first | (go_at_call 28; (with_reducible refine (Qav.calls kj41 _ _ l0 _ _ l2 t131 _ ?side1 ?side2 ?side3 ?side4 A76.out).mono ?_); (case side1 => exact pC (Kd.C_below HR0.out HB.out)); (case side2 => exact HC0.out); (case side3 => exact pC (Kd.C_below HR2.out HB.out)); (case side4 => exact HC2.out); rintro e w' ⟨rfl, ⟨nd, rfl⟩⟩))
            go_meet
            case rel => exact ⟨_, (!t131), eS, H', ⟨by have := HJ3.out; have := HJ15.out; have := HJ41.out; first | omega | exact Nat.le_refl _⟩, ⟨pB BK101.out⟩, ⟨pB BK113.out⟩, ⟨pB BK121.out⟩, ⟨pE HB⟩⟩
           ·
            rw [if_neg c75] at H
            have c75b0 : (t130 == 0) = false := beq_eq_false_iff_ne.mpr c75
            have c75b1 : (t130 != 0) = true := bne_iff_ne.mpr c75
            (first | rw [c75b0] | (simp only [QR, QU]; rw [c75b0]) | skip)
            have H' := Qa.mk H
            clear H
            go_wp2
            go_meet
            case rel => exact ⟨_, (false), eS, H', ⟨by have := HJ3.out; have := HJ15.out; have := HJ41.out; first | omega | exact Nat.le_refl _⟩, ⟨pB BK101.out⟩, ⟨pB BK113.out⟩, ⟨pB BK121.out⟩, ⟨pE HB⟩⟩
          case rest =>
           as_aux_lemma =>
           clear HC70
           try clear c2
           try clear p2
           try clear c4
           try clear c5
           try clear c6
           try clear c7
           try clear c25
           try clear c27
           try clear c44
           try clear c45
           try clear c45b0
           try clear c45b1
           try clear c54
           try clear c54b0
           try clear c54b1
           try clear c60
           try clear c64
           try clear c64b0
           try clear c64b1
           try clear c68
           try clear c71
           try clear c72
           try clear c75
           try clear c75b0
           try clear c75b1
           try clear hcz73_0
           try clear hcz73_1
           try clear hcz73_2
           try clear hcz73_3
           try clear hcz73_4
           try clear hfz73_0
           try clear hfz73_1
           try clear hfz73_2
           try clear hfz73_3
           try clear hfz73_4
           try clear p2
           obtain ⟨kq, x108_69, rfl, HA, HJ69, BK101, BK113, BK121, HB⟩ := hcut
           cases kq with
           | zero => exact absurd HA.out (by simp [Qan.j3])
           | succ kj69 =>
            have H := HA.out
            clear HA
            simp only [Qan.j3] at H
            have HC77 := Qa.mk H
            clear H
            go_upto_if 108 with (fail)
            go_cut [18] (fun v18 wc => ∃ (kq : Nat) (x18_76 : Int), v18 = .int .i64 x18_76 ∧ Qa (Qan.j4 kq l0 l2 t114 t115 t116 t117 t120 x18_76 a1_0 a1_1 a1_2 a1_3 a1_4 t118 t119 = some r) ∧ Qa (kq ≤ kj69) ∧ Qa (wc.heap[gb101]? = some (.cells #[.int .i64 a1_0, .int .i64 a1_1, .int .i64 a1_2, .int .i64 a1_3, .int .i64 a1_4] 26 (0, 0))) ∧ Qa (wc.heap[gb113]? = some (.cells #[.int .i64 t110, .int .i64 t111] 24 (0, 0))) ∧ Qa (wc.heap[gb121]? = some (.cells #[.int .i64 t118, .int .i64 t119] 24 (0, 0))) ∧ Qa (Below w.heap.size w wc))
            case first =>
             have H := HC77.out
             clear HC77
             by_cases c78 : x108_69 = true
             ·
              subst c78
              rw [if_pos rfl] at H
              have H' := Qa.mk H
              clear H
              go_wp2
              go_meet
              case rel => exact ⟨_, (4), eS, H', ⟨by have := HJ3.out; have := HJ15.out; have := HJ41.out; have := HJ69.out; first | omega | exact Nat.le_refl _⟩, ⟨pB BK101.out⟩, ⟨pB BK113.out⟩, ⟨pB BK121.out⟩, ⟨pE HB⟩⟩
             ·
              replace c78 := Bool.eq_false_iff.mpr c78
              subst c78
              rw [if_neg (show ¬ (false = true) by decide)] at H
              have H' := Qa.mk H
              clear H
              go_wp2
              go_meet
              case rel => exact ⟨_, (t130), eS, H', ⟨by have := HJ3.out; have := HJ15.out; have := HJ41.out; have := HJ69.out; first | omega | exact Nat.le_refl _⟩, ⟨pB BK101.out⟩, ⟨pB BK113.out⟩, ⟨pB BK121.out⟩, ⟨pE HB⟩⟩
            case rest =>
             as_aux_lemma =>
             clear HC77
             try clear c2
             try clear p2
             try clear c4
             try clear c5
             try clear c6
             try clear c7
             try clear c25
             try clear c27
             try clear c44
             try clear c45
             try clear c45b0
             try clear c45b1
             try clear c54
             try clear c54b0
             try clear c54b1
             try clear c60
             try clear c64
             try clear c64b0
             try clear c64b1
             try clear c68
             try clear c71
             try clear c72
             try clear c75
             try clear c75b0
             try clear c75b1
             try clear c78
             try clear hcz73_0
             try clear hcz73_1
             try clear hcz73_2
             try clear hcz73_3
             try clear hcz73_4
             try clear hfz73_0
             try clear hfz73_1
             try clear hfz73_2
             try clear hfz73_3
             try clear hfz73_4
             try clear p2
             obtain ⟨kq, x18_76, rfl, HA, HJ76, BK101, BK113, BK121, HB⟩ := hcut
             cases kq with
             | zero => exact absurd HA.out (by simp [Qan.j4])
             | succ kj76 =>
              have H := HA.out
              clear HA
              simp only [Qan.j4] at H
              by_cases c79 : x18_76 = 0
              ·
               rw [if_pos c79] at H
               have c79b0 : (x18_76 == 0) = true := beq_iff_eq.mpr c79
               have c79b1 : (x18_76 != 0) = false := bne_eq_false_iff_eq.mpr c79
               clear c79
               obtain ⟨⟨t132, t133⟩, A80, H⟩ := bi H
               by_cases c81 : t117 = 0
               ·
                rw [if_pos c81] at H
                have c81b0 : (t117 == 0) = true := beq_iff_eq.mpr c81
                have c81b1 : (t117 != 0) = false := bne_eq_false_iff_eq.mpr c81
                clear c81
                by_cases c82 : t120 = 0
                ·
                 rw [if_pos c82] at H
                 have c82b0 : (t120 == 0) = true := beq_iff_eq.mpr c82
                 have c82b1 : (t120 != 0) = false := bne_eq_false_iff_eq.mpr c82
                 clear c82
                 by_cases c83 : (t118 == t132 && (t119 == t133)) = true
                 ·
                  rw [if_pos c83] at H
                  have c83b0 : (t118 == t132 && (t119 == t133)) = true := c83
                  (try (have c83b1 : decide (t118 = t132 && (t119 == t133)) = true := by simpa using c83))
                  (try (have c83b2 : (t118 == t132 && (t119 == t133)) = true := by simpa using c83))
                  clear c83
                  by_cases c84 : (t114 == (decide (t132 ≥ 0))) = true
                  ·
                   rw [if_pos c84] at H
                   have c84b0 : (t114 == (decide (t132 ≥ 0))) = true := c84
                   (try (have c84b1 : decide (t114 = (decide (t132 ≥ 0))) = true := by simpa using c84))
                   (try (have c84b2 : (t114 == (decide (t132 ≥ 0))) = true := by simpa using c84))
                   clear c84
                   by_cases c85 : (t115 == (decide (t133 ≥ 0))) = true
                   ·
                    rw [if_pos c85] at H
                    have c85b0 : (t115 == (decide (t133 ≥ 0))) = true := c85
                    (try (have c85b1 : decide (t115 = (decide (t133 ≥ 0))) = true := by simpa using c85))
                    (try (have c85b2 : (t115 == (decide (t133 ≥ 0))) = true := by simpa using c85))
                    clear c85
                    obtain ⟨t135, A86, H⟩ := bi H
                    by_cases c87 : (t116 == (decide (t135 > a1_4))) = true
                    ·
                     rw [if_pos c87] at H
                     have c87b0 : (t116 == (decide (t135 > a1_4))) = true := c87
                     (try (have c87b1 : decide (t116 = (decide (t135 > a1_4))) = true := by simpa using c87))
                     (try (have c87b2 : (t116 == (decide (t135 > a1_4))) = true := by simpa using c87))
                     clear c87
                     obtain ⟨t136, A88, H⟩ := bi H
                     obtain rfl := Option.some.inj H
                     have hnb89 := NB101_113.out
                     have hnc89 := NB113_101.out
                     have hnb90 := NB101_121.out
                     have hnc90 := NB121_101.out
                     obtain ⟨_, _, _, _, _, _, _, _, _, _⟩ := cf5 BK101
                     try go_wp2_with (first | ((with_reducible refine gc 29 rfl ?_); refine gL 142 Tryz.func29 #[.slice A0 l0.length c0, .agg #[.int .i64 a1_0, .int .i64 a1_1, .int .i64 a1_2, .int .i64 a1_3, .int .i64 a1_4], .slice A2 l2.length c2] ?_; (with_reducible refine (Qap.calls kj76 _ _ l0 a1_0 a1_1 a1_2 a1_3 a1_4 _ _ l2 t132 t133 _ ?side1 ?side2 ?side3 ?side4 A80.out).mono ?_); (case side1 => exact pC (Kd.C_below HR0.out HB.out)); (case side2 => exact HC0.out); (case side3 => exact pC (Kd.C_below HR2.out HB.out)); (case side4 => exact HC2.out); rintro e w92 ⟨rfl, hb⟩; refine ⟨_, rfl, ?_⟩; replace BK101 := bb BK101 hb; replace BK113 := bb BK113 hb; replace BK121 := bb BK121 hb; replace HB := bs HB hb; clear hb) | ((with_reducible refine gd 19 ?_); (try (refine QG (by rfl) ?_; dsimp only)); refine bx 19 #[.int .i64 0, .int .i64 0] 24 ?_; intro gb134 hg w93 BK134 hb; have GW134 := gs HB hg; replace HB := bs HB hb; have NB101_134 := nl BK101 hg; have NB134_101 := nr BK101 hg; replace BK101 := bb BK101 hb; have NB113_134 := nl BK113 hg; have NB134_113 := nr BK113 hg; replace BK113 := bb BK113 hb; have NB121_134 := nl BK121 hg; have NB134_121 := nr BK121 hg; replace BK121 := bb BK121 hb; clear hb hg; have hnb94 := NB134_101.out; have hnc94 := NB101_134.out; have hnb95 := NB134_113.out; have hnc95 := NB113_134.out; have hnb96 := NB134_121.out; have hnc96 := NB121_134.out; obtain ⟨_, _, _, _⟩ := cf2 BK134))
                     have n0_ : Qa (((w93.setCell ⟨gb134, 0, none⟩ (.int .i64 t132)).setCell ⟨gb134, 1, none⟩ (.int .i64 t133)).heap[gb101]? = some (.cells #[.int .i64 a1_0, .int .i64 a1_1, .int .i64 a1_2, .int .i64 a1_3, .int .i64 a1_4] 26 (0, 0))) := ⟨by refine pB ?_; refine Qx ?_ NB101_134.out _; refine pB ?_; refine Qx ?_ NB101_134.out _; (with_reducible repeat (first | refine Qt ?_ _ | refine Qh ?_ | refine Qao ?_ _)); exact BK101.out⟩
                     have n1_ : Qa (((w93.setCell ⟨gb134, 0, none⟩ (.int .i64 t132)).setCell ⟨gb134, 1, none⟩ (.int .i64 t133)).heap[gb113]? = some (.cells #[.int .i64 t110, .int .i64 t111] 24 (0, 0))) := ⟨by refine pB ?_; refine Qx ?_ NB113_134.out _; refine pB ?_; refine Qx ?_ NB113_134.out _; (with_reducible repeat (first | refine Qt ?_ _ | refine Qh ?_ | refine Qao ?_ _)); exact BK113.out⟩
                     have n2_ : Qa (((w93.setCell ⟨gb134, 0, none⟩ (.int .i64 t132)).setCell ⟨gb134, 1, none⟩ (.int .i64 t133)).heap[gb121]? = some (.cells #[.int .i64 t118, .int .i64 t119] 24 (0, 0))) := ⟨by refine pB ?_; refine Qx ?_ NB121_134.out _; refine pB ?_; refine Qx ?_ NB121_134.out _; (with_reducible repeat (first | refine Qt ?_ _ | refine Qh ?_ | refine Qao ?_ _)); exact BK121.out⟩
                     have n3_ : Qa (((w93.setCell ⟨gb134, 0, none⟩ (.int .i64 t132)).setCell ⟨gb134, 1, none⟩ (.int .i64 t133)).heap[gb134]? = some (.cells #[.int .i64 t132, .int .i64 t133] 24 (0, 0))) := ⟨by refine pB ?_; refine Qg (cs := #[.int .i64 t132, .int .i64 0]) ?_ 1 _ rfl; refine pB ?_; refine Qg (cs := #[.int .i64 0, .int .i64 0]) ?_ 0 _ rfl; (with_reducible repeat (first | refine Qt ?_ _ | refine Qh ?_ | refine Qao ?_ _)); exact BK134.out⟩
                     have n4_ : Qa (Below w.heap.size w ((w93.setCell ⟨gb134, 0, none⟩ (.int .i64 t132)).setCell ⟨gb134, 1, none⟩ (.int .i64 t133))) := ⟨pE HB⟩
                     (try clear BK101)
                     (try clear BK113)
                     (try clear BK121)
                     (try clear BK134)
                     (try clear HB)
                     generalize ((w93.setCell ⟨gb134, 0, none⟩ (.int .i64 t132)).setCell ⟨gb134, 1, none⟩ (.int .i64 t133)) = w98 at n0_ n1_ n2_ n3_ n4_ ⊢
                     have BK101 := n0_
                     have BK113 := n1_
                     have BK121 := n2_
                     have BK134 := n3_
                     have HB := n4_
                     clear n0_ n1_ n2_ n3_ n4_
                     replace BK101 := Qa.mk (Qh BK101.out)
                     replace BK113 := Qa.mk (Qh BK113.out)
                     replace BK121 := Qa.mk (Qh BK121.out)
                     replace BK134 := Qa.mk (Qh BK134.out)
                     replace HB := Qa.mk (QM HB.out)
                     refine JS (n := 39) (S := fun w' => w'.cell? ⟨gb121, 0, none⟩ = some (.int .i64 t118) ∧ w'.cell? ⟨gb121, 1, none⟩ = some (.int .i64 t119) ∧ w'.cell? ⟨gb134, 0, none⟩ = some (.int .i64 t132) ∧ w'.cell? ⟨gb134, 1, none⟩ = some (.int .i64 t133) ∧ w'.cell? ⟨gb101, 0, none⟩ = some (.int .i64 a1_0) ∧ w'.cell? ⟨gb101, 1, none⟩ = some (.int .i64 a1_1) ∧ w'.cell? ⟨gb101, 2, none⟩ = some (.int .i64 a1_2) ∧ w'.cell? ⟨gb101, 3, none⟩ = some (.int .i64 a1_3) ∧ w'.cell? ⟨gb101, 4, none⟩ = some (.int .i64 a1_4)) (ds := []) #[false, false, false, false, false, false, false, false, false, false, false, false, false, false, false, false, false, false, false, false, false, false, false, false, false, false, false, false, false, false, false, false, false, false, false, false, false, false, false] (by kernel_rfl) rfl rfl ⟨(Qb BK121.out 0).trans rfl, (Qb BK121.out 1).trans rfl, (Qb BK134.out 0).trans rfl, (Qb BK134.out 1).trans rfl, (Qb BK101.out 0).trans rfl, (Qb BK101.out 1).trans rfl, (Qb BK101.out 2).trans rfl, (Qb BK101.out 3).trans rfl, (Qb BK101.out 4).trans rfl⟩ (fun hHeld => ?_); refine Jk Qan.tab18 Qan.bits18 (fun HT_ HW_ => ?_)
                     generalize w98.drew = w99 at BK101 BK113 BK121 BK134 HB hHeld ⊢
                     refine pu 0 143 ?_
                     refine pu 1 144 ?_
                     refine pu 2 145 ?_
                     refine pu 3 146 ?_
                     refine pu 4 147 ?_
                     refine pu 5 148 ?_
                     refine pu 6 149 ?_
                     refine tk 7 150 hHeld ?_
                     refine tk 8 151 hHeld ?_
                     refine pu 9 152 ?_
                     refine pu 10 153 ?_
                     refine pu 11 154 ?_
                     refine pu 12 155 ?_
                     refine pu 13 156 ?_
                     refine tk 14 157 hHeld ?_
                     refine pu 15 158 ?_
                     refine pu 16 159 ?_
                     refine pu 17 160 ?_
                     refine pu 18 161 ?_
                     refine pu 19 162 ?_
                     refine pu 20 163 ?_
                     refine tk 21 164 hHeld ?_
                     refine pu 22 165 ?_
                     refine pu 23 166 ?_
                     refine pu 24 167 ?_
                     refine pu 25 168 ?_
                     refine pu 26 169 ?_
                     refine pu 27 170 ?_
                     refine pu 28 171 ?_
                     refine pu 30 173 ?_
                     refine tk 31 174 hHeld ?_
                     refine on 29 (fun K hK => ?_)
                     refine gO Tryz.func30 #[.slice A0 l0.length c0, .slice A2 l2.length c2] ?_
                     with_reducible refine (Qat.calls kj76 _ _ l0 _ _ l2 t135 _ ?side1 ?side2 ?side3 ?side4 A86.out).mono ?_
                     (case side1 => exact pC (Kd.C_below HR0.out HB.out))
                     (case side2 => exact HC0.out)
                     (case side3 => exact pC (Kd.C_below HR2.out HB.out))
                     (case side4 => exact HC2.out)
                     rintro e w' ⟨rfl, ⟨nd, rfl⟩⟩
                     refine ⟨_, rfl, ?_⟩
                     refine hK.out _ _ ⟨(Qb BK121.out 0).trans rfl, (Qb BK121.out 1).trans rfl, (Qb BK134.out 0).trans rfl, (Qb BK134.out 1).trans rfl, (Qb BK101.out 0).trans rfl, (Qb BK101.out 1).trans rfl, (Qb BK101.out 2).trans rfl, (Qb BK101.out 3).trans rfl, (Qb BK101.out 4).trans rfl⟩ (fun hHeld => ?_)
                     clear hK K
                     refine QY (a' := ?_) ?_ ?_
                     rotate_left
                     ·
                      show Act.put _ (some 172) _ = _
                      simp only [Act.put, List.setIfInBounds_toArray, List.set_cons_zero, List.set_cons_succ, QR, QU]
                      rfl
                     refine pu 32 175 ?_
                     refine pu 33 176 ?_
                     refine pu 34 177 ?_
                     refine pu 35 178 ?_
                     refine on 36 (fun K hK => ?_)
                     refine gO Tryz.func15 #[] ?_
                     with_reducible refine (Qd.calls kj76  t136 _ A88.out).mono ?_
                     rintro e w100 ⟨rfl, hb⟩
                     refine ⟨_, rfl, ?_⟩
                     replace BK101 := bb BK101 hb
                     replace BK113 := bb BK113 hb
                     replace BK121 := bb BK121 hb
                     replace BK134 := bb BK134 hb
                     replace HB := bs HB hb
                     (try clear hb)
                     (try clear hb2)
                     (try clear hk)
                     (try clear hi)
                     refine hK.out _ _ ⟨(Qb BK121.out 0).trans rfl, (Qb BK121.out 1).trans rfl, (Qb BK134.out 0).trans rfl, (Qb BK134.out 1).trans rfl, (Qb BK101.out 0).trans rfl, (Qb BK101.out 1).trans rfl, (Qb BK101.out 2).trans rfl, (Qb BK101.out 3).trans rfl, (Qb BK101.out 4).trans rfl⟩ (fun hHeld => ?_)
                     clear hK K
                     refine QY (a' := ?_) ?_ ?_
                     rotate_left
                     ·
                      show Act.put _ (some 179) _ = _
                      simp only [Act.put, List.setIfInBounds_toArray, List.set_cons_zero, List.set_cons_succ, QR, QU]
                      rfl
                     refine pu 37 180 ?_
                     refine pu 38 6 ?_
                     refine JD (JM HT_.out (by kernel_rfl)) ?_
                     try go_wp2
                     go_ret
                     exact ⟨eT, pE HB⟩
                    ·
                     rw [if_neg c87] at H
                     have c87b0 : (t116 == (decide (t135 > a1_4))) = false := by simpa using c87
                     (try (have c87b1 : decide (t116 = (decide (t135 > a1_4))) = false := by simpa using c87))
                     (try (have c87b2 : (t116 == (decide (t135 > a1_4))) = false := by simpa using c87))
                     (try (have c87b3 : ¬ (t116 = (decide (t135 > a1_4))) := by simpa using c87))
                     clear c87
                     exact absurd ((Option.some.inj H).trans HRT.out) (by simp)
                   ·
                    rw [if_neg c85] at H
                    have c85b0 : (t115 == (decide (t133 ≥ 0))) = false := by simpa using c85
                    (try (have c85b1 : decide (t115 = (decide (t133 ≥ 0))) = false := by simpa using c85))
                    (try (have c85b2 : (t115 == (decide (t133 ≥ 0))) = false := by simpa using c85))
                    (try (have c85b3 : ¬ (t115 = (decide (t133 ≥ 0))) := by simpa using c85))
                    clear c85
                    exact absurd ((Option.some.inj H).trans HRT.out) (by simp)
                  ·
                   rw [if_neg c84] at H
                   have c84b0 : (t114 == (decide (t132 ≥ 0))) = false := by simpa using c84
                   (try (have c84b1 : decide (t114 = (decide (t132 ≥ 0))) = false := by simpa using c84))
                   (try (have c84b2 : (t114 == (decide (t132 ≥ 0))) = false := by simpa using c84))
                   (try (have c84b3 : ¬ (t114 = (decide (t132 ≥ 0))) := by simpa using c84))
                   clear c84
                   exact absurd ((Option.some.inj H).trans HRT.out) (by simp)
                 ·
                  rw [if_neg c83] at H
                  have c83b0 : (t118 == t132 && (t119 == t133)) = false := by simpa using c83
                  (try (have c83b1 : decide (t118 = t132 && (t119 == t133)) = false := by simpa using c83))
                  (try (have c83b2 : (t118 == t132 && (t119 == t133)) = false := by simpa using c83))
                  (try (have c83b3 : ¬ (t118 = t132 && (t119 == t133)) := by simpa using c83))
                  clear c83
                  exact absurd ((Option.some.inj H).trans HRT.out) (by simp)
                ·
                 rw [if_neg c82] at H
                 have c82b0 : (t120 == 0) = false := beq_eq_false_iff_ne.mpr c82
                 have c82b1 : (t120 != 0) = true := bne_iff_ne.mpr c82
                 exact absurd ((Option.some.inj H).trans HRT.out) (by simp)
               ·
                rw [if_neg c81] at H
                have c81b0 : (t117 == 0) = false := beq_eq_false_iff_ne.mpr c81
                have c81b1 : (t117 != 0) = true := bne_iff_ne.mpr c81
                exact absurd ((Option.some.inj H).trans HRT.out) (by simp)
              ·
               rw [if_neg c79] at H
               have c79b0 : (x18_76 == 0) = false := beq_eq_false_iff_ne.mpr c79
               have c79b1 : (x18_76 != 0) = true := bne_iff_ne.mpr c79
               by_cases c101 : t117 = x18_76
               ·
                rw [if_pos c101] at H
                have c101b0 : (t117 == x18_76) = true := beq_iff_eq.mpr c101
                have c101b1 : (t117 != x18_76) = false := bne_eq_false_iff_eq.mpr c101
                clear c101
                by_cases c102 : t120 = x18_76
                ·
                 rw [if_pos c102] at H
                 have c102b0 : (t120 == x18_76) = true := beq_iff_eq.mpr c102
                 have c102b1 : (t120 != x18_76) = false := bne_eq_false_iff_eq.mpr c102
                 clear c102
                 by_cases c103 : t114 = true
                 ·
                  subst c103
                  rw [if_pos rfl] at H
                  exact absurd ((Option.some.inj H).trans HRT.out) (by simp)
                 ·
                  replace c103 := Bool.eq_false_iff.mpr c103
                  subst c103
                  rw [if_neg (show ¬ (false = true) by decide)] at H
                  by_cases c104 : t115 = true
                  ·
                   subst c104
                   rw [if_pos rfl] at H
                   exact absurd ((Option.some.inj H).trans HRT.out) (by simp)
                  ·
                   replace c104 := Bool.eq_false_iff.mpr c104
                   subst c104
                   rw [if_neg (show ¬ (false = true) by decide)] at H
                   by_cases c105 : t116 = true
                   ·
                    subst c105
                    rw [if_pos rfl] at H
                    exact absurd ((Option.some.inj H).trans HRT.out) (by simp)
                   ·
                    replace c105 := Bool.eq_false_iff.mpr c105
                    subst c105
                    rw [if_neg (show ¬ (false = true) by decide)] at H
                    by_cases c106 : (t118 == 0 && (t119 == 0)) = true
                    ·
                     rw [if_pos c106] at H
                     have c106b0 : (t118 == 0 && (t119 == 0)) = true := c106
                     (try (have c106b1 : decide (t118 = 0 && (t119 == 0)) = true := by simpa using c106))
                     (try (have c106b2 : (t118 == 0 && (t119 == 0)) = true := by simpa using c106))
                     clear c106
                     obtain ⟨t137, A107, H⟩ := bi H
                     obtain rfl := Option.some.inj H
                     have hnb108 := NB121_101.out
                     have hnc108 := NB101_121.out
                     have hnb109 := NB121_113.out
                     have hnc109 := NB113_121.out
                     obtain ⟨_, _, _, _⟩ := cf2 BK121
                     go_wp2_with (first | (go_at_call 15; (with_reducible refine (Qd.calls kj76  t137 _ A107.out).mono ?_); rintro e w111 ⟨rfl, hb⟩; replace BK101 := bb BK101 hb; replace BK113 := bb BK113 hb; replace BK121 := bb BK121 hb; replace HB := bs HB hb; (try clear hb); (try clear hb2); (try clear hk); (try clear hi)))
                     go_ret
                     exact ⟨eT, pE HB⟩
                    ·
                     rw [if_neg c106] at H
                     have c106b0 : (t118 == 0 && (t119 == 0)) = false := by simpa using c106
                     (try (have c106b1 : decide (t118 = 0 && (t119 == 0)) = false := by simpa using c106))
                     (try (have c106b2 : (t118 == 0 && (t119 == 0)) = false := by simpa using c106))
                     (try (have c106b3 : ¬ (t118 = 0 && (t119 == 0)) := by simpa using c106))
                     clear c106
                     exact absurd ((Option.some.inj H).trans HRT.out) (by simp)
                ·
                 rw [if_neg c102] at H
                 have c102b0 : (t120 == x18_76) = false := beq_eq_false_iff_ne.mpr c102
                 have c102b1 : (t120 != x18_76) = true := bne_iff_ne.mpr c102
                 exact absurd ((Option.some.inj H).trans HRT.out) (by simp)
               ·
                rw [if_neg c101] at H
                have c101b0 : (t117 == x18_76) = false := beq_eq_false_iff_ne.mpr c101
                have c101b1 : (t117 != x18_76) = true := bne_iff_ne.mpr c101
                exact absurd ((Option.some.inj H).trans HRT.out) (by simp)
end Go.Proofs.YtjaapkkpmegkfaaGreat.P
