/- Part 8 of what the law's proof needs: words, walks of functions and plain facts. -/
import Derived.Test.YtlmglnobdcgbeaaGreatF01
import Derived.Test.YtlmglnobdcgbeaaGreatF03
import Derived.Test.YtlmglnobdcgbeaaGreatF04
import Derived.Test.YtlmglnobdcgbeaaGreatF07
set_option linter.unusedVariables false
set_option linter.unusedSimpArgs false
namespace Go.Proofs.YtlmglnobdcgbeaaGreat.P
open Go.RowKit Go.Proofs.YtlmglnobdcgbeaaGreatW.PrintWords Go.Proofs.YtlmglnobdcgbeaaGreatW.PrintLast Go.Proofs.YtlmglnobdcgbeaaGreatW.PrintMore
attribute [local go_sem] max2_int min2_int max_two min_two max_three min_three max_four min_four
mutual
def walkmilllaw04_TurnEnough.j0 : Nat → Int → Int → List Int → Bool → Int → Int → List (S67) → List Int → Option (Bool)
 | 0, _, _, _, _, _, _, _, _ => none
 | k + 1, x8, x9, x11, x72, x103000, x103001, x110000, x110001 => if x72 = true then (some false) else ((walkmilllaw04_worst.f k x110000 x110001 x11 x9).bind fun t129 => (if t129 > x8 then (walkmilllaw04_TurnEnough.j1 k x11 true x103000 x103001 x110000 x110001) else (if x9 > 1 then ((walkmilllaw04_worst.f k x110000 x110001 x11 (wrap64 (x9 - 1))).bind fun t130 => (walkmilllaw04_TurnEnough.j1 k x11 (decide (t130 ≤ x8)) x103000 x103001 x110000 x110001)) else (walkmilllaw04_TurnEnough.j1 k x11 false x103000 x103001 x110000 x110001))))
def walkmilllaw04_TurnEnough.j1 : Nat → List Int → Bool → Int → Int → List (S67) → List Int → Option (Bool)
 | 0, _, _, _, _, _, _ => none
 | k + 1, x11, x91, x103000, x103001, x110000, x110001 => if x91 = true then (some false) else (if (x11.length : Int) = 0 then ((walkmilllaw04_known.f).bind fun t131 => (some t131)) else ((walkmilllaw04_own.f x110000 x110001).bind fun bt132 => ((turn_Waits.f k bt132.1 bt132.2 (wrap64 (1 + (Int.tmod (wrap64 (x103000)) 4)))).bind fun bt138 => ((walkmilllaw04_own.f x110000 x110001).bind fun bt141 => ((turn_Waits.f k bt141.1 bt141.2 (wrap64 ((wrap64 (1 + (Int.tmod (wrap64 (x103000)) 4))) + 1))).bind fun bt147 => ((walkmilllaw04_own.f x110000 x110001).bind fun bt150 => (if 0 ≤ (Int.tmod (wrap64 (x103001)) (x11.length : Int)) then (if (Int.tmod (wrap64 (x103001)) (x11.length : Int)) < (bt150.1.length : Int) then ((walkmilllaw04_span.f ((rd_T67 bt150.1 (Int.tmod (wrap64 (x103001)) (x11.length : Int))).f2.f0) ((rd_T67 bt150.1 (Int.tmod (wrap64 (x103001)) (x11.length : Int))).f2.f0)).bind fun bt160 => ((turn_Waits.f k (bt150.1.set ((Int.tmod (wrap64 (x103001)) (x11.length : Int)) : Int).toNat (⟨(rd_T67 bt150.1 (Int.tmod (wrap64 (x103001)) (x11.length : Int))).f0, (rd_T67 bt150.1 (Int.tmod (wrap64 (x103001)) (x11.length : Int))).f1, (⟨bt160.1, bt160.2⟩ : S42)⟩ : S67)) bt150.2 (wrap64 (1 + (Int.tmod (wrap64 (x103000)) 4)))).bind fun bt163 => (if 0 ≤ (wrap64 ((x11.length : Int) - 1)) then (if (wrap64 ((x11.length : Int) - 1)) < (x11.length : Int) then ((walkmilllaw04_own.f x110000 x110001).bind fun bt167 => (if 0 ≤ (rd x11 (wrap64 ((x11.length : Int) - 1))) then (if (rd x11 (wrap64 ((x11.length : Int) - 1))) ≤ (bt167.1.length : Int) then (if 0 ≤ (wrap64 ((rd x11 (wrap64 ((x11.length : Int) - 1))) + 1)) then (if (wrap64 ((rd x11 (wrap64 ((x11.length : Int) - 1))) + 1)) ≤ (bt167.1.length : Int) then ((turn_Waits.f k (bt167.1.eraseIdx ((rd x11 (wrap64 ((x11.length : Int) - 1))) : Int).toNat) bt167.2 (wrap64 (1 + (Int.tmod (wrap64 (x103000)) 4)))).bind fun bt185 => (if bt185.2.2 = 7 then (walkmilllaw04_TurnEnough.j2 k bt138.2.1 bt138.2.2 bt147.2.1 bt147.2.2 bt163.2.1 bt163.2.2 bt185.2.1 bt185.2.2 ((x11.length : Int) == 1)) else (walkmilllaw04_TurnEnough.j2 k bt138.2.1 bt138.2.2 bt147.2.1 bt147.2.2 bt163.2.1 bt163.2.2 bt185.2.1 bt185.2.2 false))) else (none)) else (none)) else (none)) else (none))) else (none)) else (none)))) else (none)) else (none))))))))
def walkmilllaw04_TurnEnough.j2 : Nat → Int → Int → Int → Int → Int → Int → Int → Int → Bool → Option (Bool)
 | 0, _, _, _, _, _, _, _, _, _ => none
 | k + 1, x15, x16, x18, x19, x23, x24, x28, x29, x182 => if x182 = true then (if x16 = 0 then (if x19 = 0 then (if x24 = 0 then (if 0 = 0 then (if x18 ≤ x15 then (if x23 ≤ x15 then (if 0 ≤ x15 then ((walkmilllaw04_known.f).bind fun t188 => (some t188)) else (some false)) else (some false)) else (some false)) else (some false)) else (some false)) else (some false)) else (some false)) else (if x16 = 0 then (if x19 = 0 then (if x24 = 0 then (if x29 = 0 then (if x18 ≤ x15 then (if x23 ≤ x15 then (if x28 ≤ x15 then ((walkmilllaw04_known.f).bind fun t189 => (some t189)) else (some false)) else (some false)) else (some false)) else (some false)) else (some false)) else (some false)) else (some false))
end
def walkmilllaw04_TurnEnough.f (k : Nat) (l0_0 : List (S126)) (a0_1 : Int) (l0_2 : List Int) (a1 : Int) (a2_0 : Int) (a2_1 : Int) : Option (Bool) := (walkmilllaw04_Morning_day.f k l0_0 a0_1 l0_2).bind fun bt103 => ((walkmilllaw04_own.f bt103.1 bt103.2).bind fun bt110 => ((turn_Fewest.f k bt110.1 bt110.2 (wrap64 (a1))).bind fun bt116 => ((walkmilllaw04_own.f bt103.1 bt103.2).bind fun bt118 => ((turn_Order.f k bt118.1 bt118.2).bind fun bt124 => (if bt116.2 = 0 then (if bt124.2 = 0 then (if bt116.1 < 1 then (walkmilllaw04_TurnEnough.j0 k (wrap64 (a1)) bt116.1 bt124.1 true a2_0 a2_1 bt103.1 bt103.2) else (if bt116.1 > (mx 1 (bt103.1.length : Int)) then (walkmilllaw04_TurnEnough.j0 k (wrap64 (a1)) bt116.1 bt124.1 true a2_0 a2_1 bt103.1 bt103.2) else ((walkmilllaw04_once.f k bt124.1 (bt103.1.length : Int)).bind fun t128 => (walkmilllaw04_TurnEnough.j0 k (wrap64 (a1)) bt116.1 bt124.1 (!t128) a2_0 a2_1 bt103.1 bt103.2)))) else (walkmilllaw04_TurnEnough.j0 k (wrap64 (a1)) bt116.1 bt124.1 true a2_0 a2_1 bt103.1 bt103.2)) else (walkmilllaw04_TurnEnough.j0 k (wrap64 (a1)) bt116.1 bt124.1 true a2_0 a2_1 bt103.1 bt103.2))))))
theorem walkmilllaw04_TurnEnough.mono_l : ∀ k, (∀ y0 y1 y2 y3 y4 y5 y6 y7, LeO (walkmilllaw04_TurnEnough.j0 k y0 y1 y2 y3 y4 y5 y6 y7) (walkmilllaw04_TurnEnough.j0 (k + 1) y0 y1 y2 y3 y4 y5 y6 y7)) ∧ (∀ y0 y1 y2 y3 y4 y5, LeO (walkmilllaw04_TurnEnough.j1 k y0 y1 y2 y3 y4 y5) (walkmilllaw04_TurnEnough.j1 (k + 1) y0 y1 y2 y3 y4 y5)) ∧ (∀ y0 y1 y2 y3 y4 y5 y6 y7 y8, LeO (walkmilllaw04_TurnEnough.j2 k y0 y1 y2 y3 y4 y5 y6 y7 y8) (walkmilllaw04_TurnEnough.j2 (k + 1) y0 y1 y2 y3 y4 y5 y6 y7 y8))
 | 0 => ⟨fun _ _ _ _ _ _ _ _ r h => by simp [walkmilllaw04_TurnEnough.j0] at h, fun _ _ _ _ _ _ r h => by simp [walkmilllaw04_TurnEnough.j1] at h, fun _ _ _ _ _ _ _ _ _ r h => by simp [walkmilllaw04_TurnEnough.j2] at h⟩
 | k + 1 => by
  obtain ⟨ih0, ih1, ih2⟩ := walkmilllaw04_TurnEnough.mono_l k
  refine ⟨?_, ?_, ?_⟩
  ·
   intro y0 y1 y2 y3 y4 y5 y6 y7
   unfold walkmilllaw04_TurnEnough.j0
   repeat' first
   | (with_reducible exact ih0 _ _ _ _ _ _ _ _)
   | (with_reducible exact ih1 _ _ _ _ _ _)
   | (with_reducible exact ih2 _ _ _ _ _ _ _ _ _)
   | (with_reducible exact turn_Fewest.mono _ _ _ _)
   | (with_reducible exact turn_Order.mono _ _ _)
   | (with_reducible exact turn_Waits.mono _ _ _ _)
   | (with_reducible exact walkmilllaw04_Morning_day.mono _ _ _ _)
   | (with_reducible exact walkmilllaw04_once.mono _ _ _)
   | (with_reducible exact walkmilllaw04_worst.mono _ _ _ _ _)
   | (with_reducible exact LeO.refl _)
   | (with_reducible exact LeO.none _)
   | (with_reducible refine LeO.ite ?_ ?_)
   | (with_reducible refine LeO.bind ?_ (fun _ => ?_))
   | exact ih0 _ _ _ _ _ _ _ _
   | exact ih1 _ _ _ _ _ _
   | exact ih2 _ _ _ _ _ _ _ _ _
   | exact turn_Fewest.mono _ _ _ _
   | exact turn_Order.mono _ _ _
   | exact turn_Waits.mono _ _ _ _
   | exact walkmilllaw04_Morning_day.mono _ _ _ _
   | exact walkmilllaw04_once.mono _ _ _
   | exact walkmilllaw04_worst.mono _ _ _ _ _
   | exact LeO.none _
   | refine LeO.ite ?_ ?_
   | refine LeO.bind ?_ (fun _ => ?_)
  ·
   intro y0 y1 y2 y3 y4 y5
   unfold walkmilllaw04_TurnEnough.j1
   repeat' first
   | (with_reducible exact ih0 _ _ _ _ _ _ _ _)
   | (with_reducible exact ih1 _ _ _ _ _ _)
   | (with_reducible exact ih2 _ _ _ _ _ _ _ _ _)
   | (with_reducible exact turn_Fewest.mono _ _ _ _)
   | (with_reducible exact turn_Order.mono _ _ _)
   | (with_reducible exact turn_Waits.mono _ _ _ _)
   | (with_reducible exact walkmilllaw04_Morning_day.mono _ _ _ _)
   | (with_reducible exact walkmilllaw04_once.mono _ _ _)
   | (with_reducible exact walkmilllaw04_worst.mono _ _ _ _ _)
   | (with_reducible exact LeO.refl _)
   | (with_reducible exact LeO.none _)
   | (with_reducible refine LeO.ite ?_ ?_)
   | (with_reducible refine LeO.bind ?_ (fun _ => ?_))
   | exact ih0 _ _ _ _ _ _ _ _
   | exact ih1 _ _ _ _ _ _
   | exact ih2 _ _ _ _ _ _ _ _ _
   | exact turn_Fewest.mono _ _ _ _
   | exact turn_Order.mono _ _ _
   | exact turn_Waits.mono _ _ _ _
   | exact walkmilllaw04_Morning_day.mono _ _ _ _
   | exact walkmilllaw04_once.mono _ _ _
   | exact walkmilllaw04_worst.mono _ _ _ _ _
   | exact LeO.none _
   | refine LeO.ite ?_ ?_
   | refine LeO.bind ?_ (fun _ => ?_)
  ·
   intro y0 y1 y2 y3 y4 y5 y6 y7 y8
   unfold walkmilllaw04_TurnEnough.j2
   repeat' first
   | (with_reducible exact ih0 _ _ _ _ _ _ _ _)
   | (with_reducible exact ih1 _ _ _ _ _ _)
   | (with_reducible exact ih2 _ _ _ _ _ _ _ _ _)
   | (with_reducible exact turn_Fewest.mono _ _ _ _)
   | (with_reducible exact turn_Order.mono _ _ _)
   | (with_reducible exact turn_Waits.mono _ _ _ _)
   | (with_reducible exact walkmilllaw04_Morning_day.mono _ _ _ _)
   | (with_reducible exact walkmilllaw04_once.mono _ _ _)
   | (with_reducible exact walkmilllaw04_worst.mono _ _ _ _ _)
   | (with_reducible exact LeO.refl _)
   | (with_reducible exact LeO.none _)
   | (with_reducible refine LeO.ite ?_ ?_)
   | (with_reducible refine LeO.bind ?_ (fun _ => ?_))
   | exact ih0 _ _ _ _ _ _ _ _
   | exact ih1 _ _ _ _ _ _
   | exact ih2 _ _ _ _ _ _ _ _ _
   | exact turn_Fewest.mono _ _ _ _
   | exact turn_Order.mono _ _ _
   | exact turn_Waits.mono _ _ _ _
   | exact walkmilllaw04_Morning_day.mono _ _ _ _
   | exact walkmilllaw04_once.mono _ _ _
   | exact walkmilllaw04_worst.mono _ _ _ _ _
   | exact LeO.none _
   | refine LeO.ite ?_ ?_
   | refine LeO.bind ?_ (fun _ => ?_)
theorem walkmilllaw04_TurnEnough.dead_j0 : ∀ k y0 y1 y2 y4 y5 y6 y7 r, walkmilllaw04_TurnEnough.j0 k y0 y1 y2 true y4 y5 y6 y7 = some r → r = true → False := by
 intro k y0 y1 y2 y4 y5 y6 y7 r h hr
 cases k with
 | zero => simp [walkmilllaw04_TurnEnough.j0] at h
 | succ k => exact absurd ((Option.some.inj (show (some false : Option Bool) = some r from h)).trans hr) (by simp)
theorem walkmilllaw04_TurnEnough.dead_j1 : ∀ k y0 y2 y3 y4 y5 r, walkmilllaw04_TurnEnough.j1 k y0 true y2 y3 y4 y5 = some r → r = true → False := by
 intro k y0 y2 y3 y4 y5 r h hr
 cases k with
 | zero => simp [walkmilllaw04_TurnEnough.j1] at h
 | succ k => exact absurd ((Option.some.inj (show (some false : Option Bool) = some r from h)).trans hr) (by simp)
theorem walkmilllaw04_TurnEnough.mono : ∀ a0 a1 a2 a3 a4 a5 k, LeO (walkmilllaw04_TurnEnough.f k a0 a1 a2 a3 a4 a5) (walkmilllaw04_TurnEnough.f (k + 1) a0 a1 a2 a3 a4 a5) := by
 intro a0 a1 a2 a3 a4 a5 k
 obtain ⟨ih0, ih1, ih2⟩ := walkmilllaw04_TurnEnough.mono_l k
 unfold walkmilllaw04_TurnEnough.f
 repeat' first
   | (with_reducible exact ih0 _ _ _ _ _ _ _ _)
   | (with_reducible exact ih1 _ _ _ _ _ _)
   | (with_reducible exact ih2 _ _ _ _ _ _ _ _ _)
   | (with_reducible exact turn_Fewest.mono _ _ _ _)
   | (with_reducible exact turn_Order.mono _ _ _)
   | (with_reducible exact turn_Waits.mono _ _ _ _)
   | (with_reducible exact walkmilllaw04_Morning_day.mono _ _ _ _)
   | (with_reducible exact walkmilllaw04_once.mono _ _ _)
   | (with_reducible exact walkmilllaw04_worst.mono _ _ _ _ _)
   | (with_reducible exact LeO.refl _)
   | (with_reducible exact LeO.none _)
   | (with_reducible refine LeO.ite ?_ ?_)
   | (with_reducible refine LeO.bind ?_ (fun _ => ?_))
   | exact ih0 _ _ _ _ _ _ _ _
   | exact ih1 _ _ _ _ _ _
   | exact ih2 _ _ _ _ _ _ _ _ _
   | exact turn_Fewest.mono _ _ _ _
   | exact turn_Order.mono _ _ _
   | exact turn_Waits.mono _ _ _ _
   | exact walkmilllaw04_Morning_day.mono _ _ _ _
   | exact walkmilllaw04_once.mono _ _ _
   | exact walkmilllaw04_worst.mono _ _ _ _ _
   | exact LeO.none _
   | refine LeO.ite ?_ ?_
   | refine LeO.bind ?_ (fun _ => ?_)
def walkmilllaw04_TurnEnough.T14 : Bool × List (List Nat × List Nat) := (true, [([], []), ([0], [0]), ([], []), ([2], [2]), ([3], [3]), ([], []), ([5], [5]), ([4, 6], [4, 6]), ([1, 7], [1, 7]), ([8, 0, 1, 2, 3, 4, 5, 6, 7, 8], [8])])
def walkmilllaw04_TurnEnough.B14 : List Nat := [0, 1, 0, 4, 12, 0, 32, 124, 255, 511]
theorem walkmilllaw04_TurnEnough.tab14 : rtab .any (opsOf Tryz.f13 14) = walkmilllaw04_TurnEnough.T14 := by kernel_rfl
theorem walkmilllaw04_TurnEnough.bits14 : waitsOk walkmilllaw04_TurnEnough.T14.2 walkmilllaw04_TurnEnough.B14 = true := by kernel_rfl
def walkmilllaw04_TurnEnough.T15 : Bool × List (List Nat × List Nat) := (true, [([], []), ([], []), ([1], [1]), ([2], [2]), ([3], [3]), ([4], [4]), ([], []), ([6], [6]), ([7], [7]), ([8], [8]), ([9], [9]), ([5, 10], [5, 10]), ([0, 0, 1, 2, 3, 4, 5, 6, 7, 8, 9, 10, 11], [0]), ([12, 0, 1, 2, 3, 4, 5, 6, 7, 8, 9, 10, 11], [12]), ([13, 11, 11, 0, 1, 2, 3, 4, 5, 6, 7, 8, 9, 10, 11], [11, 13])])
def walkmilllaw04_TurnEnough.B15 : List Nat := [0, 0, 2, 6, 14, 30, 0, 64, 192, 448, 960, 2046, 4095, 8191, 16383]
theorem walkmilllaw04_TurnEnough.tab15 : rtab .any (opsOf Tryz.f13 15) = walkmilllaw04_TurnEnough.T15 := by kernel_rfl
theorem walkmilllaw04_TurnEnough.bits15 : waitsOk walkmilllaw04_TurnEnough.T15.2 walkmilllaw04_TurnEnough.B15 = true := by kernel_rfl
def walkmilllaw04_TurnEnough.T19 : Bool × List (List Nat × List Nat) := (true, [([], []), ([0], [0]), ([], []), ([1, 2], [1, 2]), ([], []), ([4], [4]), ([], []), ([6], [6]), ([5, 7], [5, 7]), ([3, 8], [3, 8]), ([0, 1, 2, 3, 4, 5, 6, 7, 8, 9], []), ([10, 9, 9, 0, 1, 2, 3, 4, 5, 6, 7, 8, 9], [9, 10])])
def walkmilllaw04_TurnEnough.B19 : List Nat := [0, 1, 0, 7, 0, 16, 0, 64, 240, 511, 1023, 2047]
theorem walkmilllaw04_TurnEnough.tab19 : rtab .any (opsOf Tryz.f13 19) = walkmilllaw04_TurnEnough.T19 := by kernel_rfl
theorem walkmilllaw04_TurnEnough.bits19 : waitsOk walkmilllaw04_TurnEnough.T19.2 walkmilllaw04_TurnEnough.B19 = true := by kernel_rfl
set_option maxHeartbeats 8000000 in
set_option maxRecDepth 100000 in
theorem walkmilllaw04_TurnEnough.calls_true (k : Nat) (A0_0 : Option Addr) (c0_0 : Nat) (l0_0 : List (S126)) (a0_1 : Int) (A0_2 : Option Addr) (c0_2 : Nat) (l0_2 : List Int) (a1 : Int) (a2_0 : Int) (a2_1 : Int) (r : Bool) (w : World) (hr0_0 : Kd.C k126 w A0_0 l0_0.length l0_0) (hc0_0 : l0_0.length ≤ c0_0) (hr0_2 : Kd.C (Kd.int .u8) w A0_2 l0_2.length l0_2) (hc0_2 : l0_2.length ≤ c0_2) (hrt : r = true) (h : walkmilllaw04_TurnEnough.f k l0_0 a0_1 l0_2 a1 a2_0 a2_1 = some r) :
  Calls Tryz.prog 13 #[.agg #[.slice A0_0 l0_0.length c0_0, .int .u8 a0_1, .slice A0_2 l0_2.length c0_2], .int .u8 a1, .agg #[.int .u8 a2_0, .int .u8 a2_1]] w fun e w' => e = .returned (.bool r) ∧ Below w.heap.size w w' := by
 have hu76 := Tryz.underlying76
 have hu84 := Tryz.underlying84
 have hu25 := Tryz.underlying25
 have hu42 := Tryz.underlying42
 have HRT := Aside0.mk hrt
 clear hrt
 have HR0_0 := Aside0.mk hr0_0
 have HC0_0 := Aside0.mk hc0_0
 clear hr0_0 hc0_0
 have HR0_2 := Aside0.mk hr0_2
 have HC0_2 := Aside0.mk hc0_2
 clear hr0_2 hc0_2
 have HB := Aside0.mk (Below.refl w.heap.size w)
 have H : ((walkmilllaw04_Morning_day.f k l0_0 a0_1 l0_2).bind fun bt103 => ((walkmilllaw04_own.f bt103.1 bt103.2).bind fun bt110 => ((turn_Fewest.f k bt110.1 bt110.2 (wrap64 (a1))).bind fun bt116 => ((walkmilllaw04_own.f bt103.1 bt103.2).bind fun bt118 => ((turn_Order.f k bt118.1 bt118.2).bind fun bt124 => (if bt116.2 = 0 then (if bt124.2 = 0 then (if bt116.1 < 1 then (walkmilllaw04_TurnEnough.j0 k (wrap64 (a1)) bt116.1 bt124.1 true a2_0 a2_1 bt103.1 bt103.2) else (if bt116.1 > (mx 1 (bt103.1.length : Int)) then (walkmilllaw04_TurnEnough.j0 k (wrap64 (a1)) bt116.1 bt124.1 true a2_0 a2_1 bt103.1 bt103.2) else ((walkmilllaw04_once.f k bt124.1 (bt103.1.length : Int)).bind fun t128 => (walkmilllaw04_TurnEnough.j0 k (wrap64 (a1)) bt116.1 bt124.1 (!t128) a2_0 a2_1 bt103.1 bt103.2)))) else (walkmilllaw04_TurnEnough.j0 k (wrap64 (a1)) bt116.1 bt124.1 true a2_0 a2_1 bt103.1 bt103.2)) else (walkmilllaw04_TurnEnough.j0 k (wrap64 (a1)) bt116.1 bt124.1 true a2_0 a2_1 bt103.1 bt103.2))))))) = some r := h
 clear h
 obtain ⟨⟨t103, t106⟩, A4, H⟩ := bi H
 obtain ⟨⟨t110, t113⟩, A5, H⟩ := bi H
 obtain ⟨⟨t116, t117⟩, A6, H⟩ := bi H
 obtain ⟨⟨t118, t121⟩, A7, H⟩ := bi H
 obtain ⟨⟨t124, t127⟩, A8, H⟩ := bi H
 have HC9 := Aside0.mk H
 clear H
 go_enter Tryz.func13, Tryz.ntmps13
 go_upto_region 4 with (first | ((with_reducible refine gate_dst (N := 3) rfl ?_); (try (refine gate_guard (by rfl) ?_; dsimp only)); refine bx 3 #[.slice A0_0 l0_0.length c0_0, .int .u8 a0_1, .slice A0_2 l0_2.length c0_2] 76 ?_; intro gb101 hg w10 hbox hb; have BK101 := hbox; have GW101 := gs HB hg; have GE101 := gs HB hg; replace HB := bs HB hb; clear hb hbox hg) | ((with_reducible refine gate_dst (N := 5) rfl ?_); (try (refine gate_guard (by rfl) ?_; dsimp only)); refine bx 5 #[.int .u8 a2_0, .int .u8 a2_1] 84 ?_; intro gb102 hg w11 hbox hb; have BK102 := hbox; have GW102 := gs HB hg; have GE102 := gs HB hg; replace HB := bs HB hb; have NB101_102 := nl BK101 hg; have NB102_101 := nr BK101 hg; replace BK101 := bb BK101 hb; clear hb hbox hg; have hnb12 := NB101_102.out; have hnc12 := NB102_101.out; obtain ⟨hcz13_0, hcz13_1, hcz13_2, hfz13_0, hfz13_1, hfz13_2⟩ := cf3 BK101) | ((with_reducible refine gc 48 rfl ?_); refine gL 31 Tryz.func48 #[.agg #[.slice A0_0 l0_0.length c0_0, .int .u8 a0_1, .slice A0_2 l0_2.length c0_2]] ?_; (with_reducible refine (walkmilllaw04_Morning_day.calls k _ _ l0_0 a0_1 _ _ l0_2 t103 t106 _ ?side1 ?side2 ?side3 ?side4 A4.out).mono ?_); (case side1 => exact pC (Kd.C_below HR0_0.out HB.out)); (case side2 => exact HC0_0.out); (case side3 => exact pC (Kd.C_below HR0_2.out HB.out)); (case side4 => exact HC0_2.out); rintro e w14 ⟨v104, v107, rfl, ho0, ho1, hb⟩; refine ⟨_, rfl, ?_⟩; have HO105 := rl ho0 HB; have HO108 := rl ho1 HB; replace BK101 := bb BK101 hb; replace BK102 := bb BK102 hb; replace HB := bs HB hb; clear hb ho0 ho1) | ((with_reducible refine gate_dst (N := 7) rfl ?_); (try (refine gate_guard (by rfl) ?_; dsimp only)); refine bx 7 #[.slice none 0 0, .slice none 0 0] 25 ?_; intro gb109 hg w15 hbox hb; replace HO105 := rb HO105 hb; replace HO108 := rb HO108 hb; have BK109 := hbox; have GW109 := gs HB hg; have GE109 := gs HB hg; replace HB := bs HB hb; have NB101_109 := nl BK101 hg; have NB109_101 := nr BK101 hg; replace BK101 := bb BK101 hb; have NB102_109 := nl BK102 hg; have NB109_102 := nr BK102 hg; replace BK102 := bb BK102 hb; clear hb hbox hg; obtain ⟨Ao16, co16, eo16⟩ := Kd.R_slice HO105.out; subst eo16; have hnb17 := NB109_101.out; have hnc17 := NB101_109.out; have hnb18 := NB109_102.out; have hnc18 := NB102_109.out; obtain ⟨hcz19_0, hcz19_1, hfz19_0, hfz19_1⟩ := cf2 BK109; obtain ⟨Ao20, co20, eo20⟩ := Kd.R_slice HO108.out; subst eo20) | ((with_reducible refine gc 49 rfl ?_); refine gL 36 Tryz.func49 #[.agg #[.slice Ao16 t103.length co16, .slice Ao20 t106.length co20]] ?_; (with_reducible refine (walkmilllaw04_own.calls _ _ t103 _ _ t106 t110 t113 _ ?side1 ?side2 ?side3 ?side4 A5.out).mono ?_); (case side1 => refine (Kd.R_reads' (e := 67) (base := w.heap.size) (ok := fun k_ => True) (n := t103.length) (c := co16) ?_).2.2; exact (by refine pR ?_; exact (Kd.R_mono (Kd.R_far (p := ⟨gb109, 1, none⟩) (Kd.R_far (p := ⟨gb109, 0, none⟩) (Kd.R_types HO105.out BK109.out (by decide)) (fun _ hk => hk.2) (.slice Ao16 t103.length co16)) (fun _ hk => hk.2) (.slice Ao20 t106.length co20)) (fun _ h_ => h_.1)))); (case side2 => exact (Kd.R_reads' HO105.out).2.1); (case side3 => refine (Kd.R_reads' (e := 3) (base := w.heap.size) (ok := fun k_ => True) (n := t106.length) (c := co20) ?_).2.2; exact (by refine pR ?_; exact (Kd.R_mono (Kd.R_far (p := ⟨gb109, 1, none⟩) (Kd.R_far (p := ⟨gb109, 0, none⟩) (Kd.R_types HO108.out BK109.out (by decide)) (fun _ hk => hk.2) (.slice Ao16 t103.length co16)) (fun _ hk => hk.2) (.slice Ao20 t106.length co20)) (fun _ h_ => h_.1)))); (case side4 => exact (Kd.R_reads' HO108.out).2.1); rintro e w21 ⟨v111, v114, rfl, ho0, ho1, hb⟩; refine ⟨_, rfl, ?_⟩; have HO112 := Aside0.mk (Kd.R_lower (Kd.R_new' ho0 (Kd.R_lt (by refine pR ?_; exact (Kd.R_mono (Kd.R_far (p := ⟨gb109, 1, none⟩) (Kd.R_far (p := ⟨gb109, 0, none⟩) (Kd.R_types HO105.out BK109.out (by decide)) (fun _ hk => hk.2) (.slice Ao16 t103.length co16)) (fun _ hk => hk.2) (.slice Ao20 t106.length co20)) (fun _ h_ => h_.1))))) (below_size (pE HB))); replace HO105 := Aside0.mk (Kd.R_elder' (by refine pR ?_; exact (Kd.R_mono (Kd.R_far (p := ⟨gb109, 1, none⟩) (Kd.R_far (p := ⟨gb109, 0, none⟩) (Kd.R_types HO105.out BK109.out (by decide)) (fun _ hk => hk.2) (.slice Ao16 t103.length co16)) (fun _ hk => hk.2) (.slice Ao20 t106.length co20)) (fun _ h_ => h_.1))) (Kd.R_base ho0) hb); have HO115 := Aside0.mk (Kd.R_lower (Kd.R_new' ho1 (Kd.R_lt (by refine pR ?_; exact (Kd.R_mono (Kd.R_far (p := ⟨gb109, 1, none⟩) (Kd.R_far (p := ⟨gb109, 0, none⟩) (Kd.R_types HO108.out BK109.out (by decide)) (fun _ hk => hk.2) (.slice Ao16 t103.length co16)) (fun _ hk => hk.2) (.slice Ao20 t106.length co20)) (fun _ h_ => h_.1))))) (below_size (pE HB))); replace HO108 := Aside0.mk (Kd.R_elder' (by refine pR ?_; exact (Kd.R_mono (Kd.R_far (p := ⟨gb109, 1, none⟩) (Kd.R_far (p := ⟨gb109, 0, none⟩) (Kd.R_types HO108.out BK109.out (by decide)) (fun _ hk => hk.2) (.slice Ao16 t103.length co16)) (fun _ hk => hk.2) (.slice Ao20 t106.length co20)) (fun _ h_ => h_.1))) (Kd.R_base ho1) hb); replace BK101 := bf BK101 hb; replace BK102 := bf BK102 hb; replace BK109 := Aside0.mk (blk_below (g := gb109) (o := .cells #[.slice Ao16 t103.length co16, .slice Ao20 t106.length co20] 25 (0, 0)) (by refine pB ?_; refine blk_put (cs := #[.slice Ao16 t103.length co16, .slice none 0 0]) ?_ 1 _ rfl; refine pB ?_; refine blk_put (cs := #[.slice none 0 0, .slice none 0 0]) ?_ 0 _ rfl; exact pB BK109.out) hb); replace HB := bs HB hb; clear hb ho0 ho1; obtain ⟨Ao22, co22, eo22⟩ := Kd.R_slice HO112.out; subst eo22; obtain ⟨Ao23, co23, eo23⟩ := Kd.R_slice HO115.out; subst eo23) | ((with_reducible refine gc 33 rfl ?_); refine gL 38 Tryz.func33 #[.agg #[.slice Ao22 t110.length co22, .slice Ao23 t113.length co23], .int .i64 (wrap64 (a1))] ?_; (with_reducible refine (turn_Fewest.calls k _ _ t110 _ _ t113 (wrap64 (a1)) t116 t117 _ ?side1 ?side2 ?side3 ?side4 A6.out).mono ?_); (case side1 => exact pC (Kd.R_reads' HO112.out).2.2); (case side2 => exact (Kd.R_reads' HO112.out).2.1); (case side3 => exact pC (Kd.R_reads' HO115.out).2.2); (case side4 => exact (Kd.R_reads' HO115.out).2.1); rintro e w24 ⟨rfl, hb⟩; refine ⟨_, rfl, ?_⟩; replace HO105 := rb HO105 hb; replace HO108 := rb HO108 hb; replace HO112 := rb HO112 hb; replace HO115 := rb HO115 hb; replace BK101 := bb BK101 hb; replace BK102 := bb BK102 hb; replace BK109 := bb BK109 hb; replace HB := bs HB hb; clear hb; obtain ⟨hcz25_0, hcz25_1, hfz25_0, hfz25_1⟩ := cf2 BK109) | ((with_reducible refine gc 49 rfl ?_); refine gL 43 Tryz.func49 #[.agg #[.slice Ao16 t103.length co16, .slice Ao20 t106.length co20]] ?_; (with_reducible refine (walkmilllaw04_own.calls _ _ t103 _ _ t106 t118 t121 _ ?side1 ?side2 ?side3 ?side4 A7.out).mono ?_); (case side1 => exact pC (Kd.R_reads' HO105.out).2.2); (case side2 => exact (Kd.R_reads' HO105.out).2.1); (case side3 => exact pC (Kd.R_reads' HO108.out).2.2); (case side4 => exact (Kd.R_reads' HO108.out).2.1); rintro e w26 ⟨v119, v122, rfl, ho0, ho1, hb⟩; refine ⟨_, rfl, ?_⟩; have HO120 := Aside0.mk (Kd.R_lower (Kd.R_new' (Kd.R_new' ho0 (Kd.R_lt (pR HO105.out))) (Kd.R_lt (pR HO112.out))) (below_size (pE HB))); replace HO105 := re HO105 ho0 hb; replace HO112 := re HO112 ho0 hb; have HO123 := Aside0.mk (Kd.R_lower (Kd.R_new' (Kd.R_new' ho1 (Kd.R_lt (pR HO108.out))) (Kd.R_lt (pR HO115.out))) (below_size (pE HB))); replace HO108 := re HO108 ho1 hb; replace HO115 := re HO115 ho1 hb; replace BK101 := bb BK101 hb; replace BK102 := bb BK102 hb; replace BK109 := bb BK109 hb; replace HB := bs HB hb; clear hb ho0 ho1; obtain ⟨Ao27, co27, eo27⟩ := Kd.R_slice HO120.out; subst eo27; obtain ⟨Ao28, co28, eo28⟩ := Kd.R_slice HO123.out; subst eo28) | ((with_reducible refine gc 20 rfl ?_); refine gL 44 Tryz.func20 #[.agg #[.slice Ao27 t118.length co27, .slice Ao28 t121.length co28]] ?_; (with_reducible refine (turn_Order.calls k _ _ t118 _ _ t121 t124 t127 _ ?side1 ?side2 ?side3 ?side4 A8.out).mono ?_); (case side1 => exact pC (Kd.R_reads' HO120.out).2.2); (case side2 => exact (Kd.R_reads' HO120.out).2.1); (case side3 => exact pC (Kd.R_reads' HO123.out).2.2); (case side4 => exact (Kd.R_reads' HO123.out).2.1); rintro e w29 ⟨v125, rfl, ho0, hb⟩; refine ⟨_, rfl, ?_⟩; replace HO105 := rb HO105 hb; replace HO112 := rb HO112 hb; replace HO120 := rb HO120 hb; have HO126 := Aside0.mk (Kd.R_lower (Kd.R_new' (Kd.R_new' (Kd.R_new' ho0 (Kd.R_lt (pR HO108.out))) (Kd.R_lt (pR HO115.out))) (Kd.R_lt (pR HO123.out))) (below_size (pE HB))); replace HO108 := re HO108 ho0 hb; replace HO115 := re HO115 ho0 hb; replace HO123 := re HO123 ho0 hb; replace BK101 := bb BK101 hb; replace BK102 := bb BK102 hb; replace BK109 := bb BK109 hb; replace HB := bs HB hb; clear hb ho0))
 (try simp only [Act.put, List.setIfInBounds_toArray, List.set_cons_zero, List.set_cons_succ])
 go_cut [72] (fun v72 wc => ∃ (kq : Nat) (x72_8 : Bool), v72 = .bool x72_8 ∧ Aside0 (walkmilllaw04_TurnEnough.j0 kq (wrap64 (a1)) t116 t124 x72_8 a2_0 a2_1 t103 t106 = some r) ∧ Aside0 (kq ≤ k) ∧ Aside0 (Kd.R (Kd.int .i64) 3 wc w.heap.size (fun k_ => some k_ ≠ ((.slice Ao20 t106.length co20) : Value).ownBlock) v125 t124) ∧ Aside0 (Kd.R k67 67 wc w.heap.size (fun _ => True) (.slice Ao16 t103.length co16) t103) ∧ Aside0 (Kd.R (Kd.int .i64) 3 wc w.heap.size (fun k_ => some k_ ≠ (v125 : Value).ownBlock) (.slice Ao20 t106.length co20) t106) ∧ Aside0 (wc.heap[gb101]? = some (.cells #[(.slice A0_0 l0_0.length c0_0), .int .u8 a0_1, (.slice A0_2 l0_2.length c0_2)] 76 (0, 0))) ∧ Aside0 (wc.heap[gb102]? = some (.cells #[.int .u8 a2_0, .int .u8 a2_1] 84 (0, 0))) ∧ Aside0 (wc.heap[gb109]? = some (.cells #[(.slice Ao16 t103.length co16), (.slice Ao20 t106.length co20)] 25 (0, 0))) ∧ Aside0 (Below w.heap.size w wc))
 case first =>
  have H := HC9.out
  clear HC9
  by_cases c30 : t117 = 0
  ·
   rw [if_pos c30] at H
   have c30b0 : (t117 == 0) = true := beq_iff_eq.mpr c30
   have c30b1 : (t117 != 0) = false := bne_eq_false_iff_eq.mpr c30
   clear c30
   (first | rw [c30b0] | (simp only [i64_w, i32_w]; rw [c30b0]) | skip)
   by_cases c31 : t127 = 0
   ·
    rw [if_pos c31] at H
    have c31b0 : (t127 == 0) = true := beq_iff_eq.mpr c31
    have c31b1 : (t127 != 0) = false := bne_eq_false_iff_eq.mpr c31
    clear c31
    by_cases c32 : t116 < 1
    ·
     rw [if_pos c32] at H
     have c32b0 : decide (t116 < 1) = true := decide_eq_true c32
     clear c32
     exact (walkmilllaw04_TurnEnough.dead_j0 _ _ _ _ _ _ _ _ _ H HRT.out).elim
    ·
     rw [if_neg c32] at H
     have c32b0 : decide (t116 < 1) = false := decide_eq_false c32
     clear c32
     obtain ⟨ji33, hji33⟩ : ∃ j_ : Int, (mx 1 (t103.length : Int)) = j_ := ⟨_, rfl⟩
     replace H : (if t116 > (ji33) then (walkmilllaw04_TurnEnough.j0 k (wrap64 (a1)) t116 t124 true a2_0 a2_1 t103 t106) else ((walkmilllaw04_once.f k t124 (t103.length : Int)).bind fun t128 => (walkmilllaw04_TurnEnough.j0 k (wrap64 (a1)) t116 t124 (!t128) a2_0 a2_1 t103 t106))) = some r := by first | (rw [hji33] at H; exact H) | (simp only [hji33] at H ⊢; exact H)
     (try (have hji33l : 1 ≤ ji33 := by (rw [← hji33]; unfold mx; (repeat' split) <;> omega)))
     (try (have hji33m : 0 ≤ ji33 := by omega))
     have hji33_ : (if 1 < (t103.length : Int) then (t103.length : Int) else 1) = ji33 := hji33
     by_cases c34 : t116 > (ji33)
     ·
      rw [if_pos c34] at H
      have c34b0 : decide ((ji33) < t116) = true := decide_eq_true c34
      clear c34
      exact (walkmilllaw04_TurnEnough.dead_j0 _ _ _ _ _ _ _ _ _ H HRT.out).elim
     ·
      rw [if_neg c34] at H
      have c34b0 : decide ((ji33) < t116) = false := decide_eq_false c34
      clear c34
      obtain ⟨t128, A35, H⟩ := bi H
      have H' := Aside0.mk H
      clear H
      have hnb36 := NB109_101.out
      have hnc36 := NB101_109.out
      have hnb37 := NB109_102.out
      have hnc37 := NB102_109.out
      obtain ⟨hcz38_0, hcz38_1, hfz38_0, hfz38_1⟩ := cf2 BK109
      obtain ⟨Ao39, co39, eo39⟩ := Kd.R_slice HO126.out
      subst eo39
      go_wp2_with (first | (go_at_call 50; (with_reducible refine (walkmilllaw04_once.calls k _ _ t124 (t103.length : Int) t128 _ ?side1 ?side2 A35.out).mono ?_); (case side1 => exact pC (Kd.R_reads' HO126.out).2.2); (case side2 => exact (Kd.R_reads' HO126.out).2.1); rintro e w40 ⟨rfl, hb⟩; replace HO105 := rb HO105 hb; replace HO108 := rb HO108 hb; replace HO112 := rb HO112 hb; replace HO115 := rb HO115 hb; replace HO120 := rb HO120 hb; replace HO123 := rb HO123 hb; replace HO126 := rb HO126 hb; replace BK101 := bb BK101 hb; replace BK102 := bb BK102 hb; replace BK109 := bb BK109 hb; replace HB := bs HB hb; (try clear hb); (try clear hb2); (try clear hk); (try clear hi)))
      go_meet
      case rel => exact ⟨_, (!t128), (by first | rfl | (simp; done) | (simp [*]; done)), H', ⟨by first | omega | exact Nat.le_refl _⟩, ⟨by (with_reducible repeat (first | apply Kd.R_alloc | apply Kd.R_drewN | apply Kd.R_drew)); exact Kd.R_mono HO126.out (fun _ hk => hk.1.1.2)⟩, ⟨by (with_reducible repeat (first | apply Kd.R_alloc | apply Kd.R_drewN | apply Kd.R_drew)); exact Kd.R_mono HO105.out (fun _ hk => trivial)⟩, ⟨by (with_reducible repeat (first | apply Kd.R_alloc | apply Kd.R_drewN | apply Kd.R_drew)); exact Kd.R_mono HO108.out (fun _ hk => hk.2)⟩, ⟨pB BK101.out⟩, ⟨pB BK102.out⟩, ⟨pB BK109.out⟩, ⟨pE HB⟩⟩
   ·
    rw [if_neg c31] at H
    have c31b0 : (t127 == 0) = false := beq_eq_false_iff_ne.mpr c31
    have c31b1 : (t127 != 0) = true := bne_iff_ne.mpr c31
    exact (walkmilllaw04_TurnEnough.dead_j0 _ _ _ _ _ _ _ _ _ H HRT.out).elim
  ·
   rw [if_neg c30] at H
   have c30b0 : (t117 == 0) = false := beq_eq_false_iff_ne.mpr c30
   have c30b1 : (t117 != 0) = true := bne_iff_ne.mpr c30
   (first | rw [c30b0] | (simp only [i64_w, i32_w]; rw [c30b0]) | skip)
   exact (walkmilllaw04_TurnEnough.dead_j0 _ _ _ _ _ _ _ _ _ H HRT.out).elim
 case rest =>
  clear HC9
  try clear c1
  try clear c2
  try clear p2
  try clear c3
  try clear c4
  try clear p6
  try clear c12
  try clear c13
  try clear c17
  try clear c18
  try clear c20
  try clear c30
  try clear c30b0
  try clear c30b1
  try clear c31
  try clear c31b0
  try clear c31b1
  try clear c32
  try clear c32b0
  try clear c33
  try clear c34
  try clear c34b0
  try clear c36
  try clear c37
  try clear hcz13_0
  try clear hcz13_1
  try clear hcz13_2
  try clear hcz19_0
  try clear hcz19_1
  try clear hcz25_0
  try clear hcz25_1
  try clear hcz38_0
  try clear hcz38_1
  try clear hfz13_0
  try clear hfz13_1
  try clear hfz13_2
  try clear hfz19_0
  try clear hfz19_1
  try clear hfz25_0
  try clear hfz25_1
  try clear hfz38_0
  try clear hfz38_1
  obtain ⟨kq, x72_8, rfl, HA, HJ8, HO_11, HO_110000, HO_110001, BK101, BK102, BK109, HB⟩ := hcut
  cases kq with
  | zero => exact absurd HA.out (by simp [walkmilllaw04_TurnEnough.j0])
  | succ kj8 =>
   have H := HA.out
   clear HA
   simp only [walkmilllaw04_TurnEnough.j0] at H
   by_cases c41 : x72_8 = true
   ·
    subst c41
    rw [if_pos rfl] at H
    exact absurd ((Option.some.inj H).trans HRT.out) (by simp)
   ·
    replace c41 := Bool.eq_false_iff.mpr c41
    subst c41
    rw [if_neg (show ¬ (false = true) by decide)] at H
    have HC42 := Aside0.mk H
    clear H
    go_upto_region 6 with (fail)
    go_cut [91] (fun v91 wc => ∃ (kq : Nat) (x91_41 : Bool), v91 = .bool x91_41 ∧ Aside0 (walkmilllaw04_TurnEnough.j1 kq t124 x91_41 a2_0 a2_1 t103 t106 = some r) ∧ Aside0 (kq ≤ kj8) ∧ Aside0 (Kd.R (Kd.int .i64) 3 wc w.heap.size (fun k_ => some k_ ≠ ((.slice Ao20 t106.length co20) : Value).ownBlock) v125 t124) ∧ Aside0 (Kd.R k67 67 wc w.heap.size (fun _ => True) (.slice Ao16 t103.length co16) t103) ∧ Aside0 (Kd.R (Kd.int .i64) 3 wc w.heap.size (fun k_ => some k_ ≠ (v125 : Value).ownBlock) (.slice Ao20 t106.length co20) t106) ∧ Aside0 (wc.heap[gb101]? = some (.cells #[(.slice A0_0 l0_0.length c0_0), .int .u8 a0_1, (.slice A0_2 l0_2.length c0_2)] 76 (0, 0))) ∧ Aside0 (wc.heap[gb102]? = some (.cells #[.int .u8 a2_0, .int .u8 a2_1] 84 (0, 0))) ∧ Aside0 (wc.heap[gb109]? = some (.cells #[(.slice Ao16 t103.length co16), (.slice Ao20 t106.length co20)] 25 (0, 0))) ∧ Aside0 (Below w.heap.size w wc))
    case first =>
     have H := HC42.out
     clear HC42
     obtain ⟨t129, A43, H⟩ := bi H
     by_cases c44 : t129 > (wrap64 (a1))
     ·
      rw [if_pos c44] at H
      have c44b0 : decide ((wrap64 (a1)) < t129) = true := decide_eq_true c44
      clear c44
      (first | rw [c44b0] | (simp only [i64_w, i32_w]; rw [c44b0]) | skip)
      exact (walkmilllaw04_TurnEnough.dead_j1 _ _ _ _ _ _ _ H HRT.out).elim
     ·
      rw [if_neg c44] at H
      have c44b0 : decide ((wrap64 (a1)) < t129) = false := decide_eq_false c44
      clear c44
      (first | rw [c44b0] | (simp only [i64_w, i32_w]; rw [c44b0]) | skip)
      by_cases c45 : t116 > 1
      ·
       rw [if_pos c45] at H
       have c45b0 : decide (1 < t116) = true := decide_eq_true c45
       clear c45
       obtain ⟨t130, A46, H⟩ := bi H
       have H' := Aside0.mk H
       clear H
       have hnb47 := NB109_101.out
       have hnc47 := NB101_109.out
       have hnb48 := NB109_102.out
       have hnc48 := NB102_109.out
       obtain ⟨hcz49_0, hcz49_1, hfz49_0, hfz49_1⟩ := cf2 BK109
       obtain ⟨Ao50, co50, eo50⟩ := Kd.R_slice HO_11.out
       subst eo50
       go_wp2_with (first | ((with_reducible refine gc 54 rfl ?_); refine gL 76 Tryz.func54 #[.agg #[.slice Ao16 t103.length co16, .slice Ao20 t106.length co20], .slice Ao50 t124.length co50, .int .i64 t116] ?_; (with_reducible refine (walkmilllaw04_worst.calls kj8 _ _ t103 _ _ t106 _ _ t124 t116 t129 _ ?side1 ?side2 ?side3 ?side4 ?side5 ?side6 A43.out).mono ?_); (case side1 => exact pC (Kd.R_reads' HO_110000.out).2.2); (case side2 => exact (Kd.R_reads' HO_110000.out).2.1); (case side3 => exact pC (Kd.R_reads' HO_110001.out).2.2); (case side4 => exact (Kd.R_reads' HO_110001.out).2.1); (case side5 => exact pC (Kd.R_reads' HO_11.out).2.2); (case side6 => exact (Kd.R_reads' HO_11.out).2.1); rintro e w51 ⟨rfl, hb⟩; refine ⟨_, rfl, ?_⟩; replace HO_11 := rb HO_11 hb; replace HO_110000 := rb HO_110000 hb; replace HO_110001 := rb HO_110001 hb; replace BK101 := bb BK101 hb; replace BK102 := bb BK102 hb; replace BK109 := bb BK109 hb; replace HB := bs HB hb; clear hb; obtain ⟨hcz52_0, hcz52_1, hfz52_0, hfz52_1⟩ := cf2 BK109) | (go_at_call 54; (with_reducible refine (walkmilllaw04_worst.calls kj8 _ _ t103 _ _ t106 _ _ t124 (wrap64 (t116 - 1)) t130 _ ?side1 ?side2 ?side3 ?side4 ?side5 ?side6 A46.out).mono ?_); (case side1 => exact pC (Kd.R_reads' HO_110000.out).2.2); (case side2 => exact (Kd.R_reads' HO_110000.out).2.1); (case side3 => exact pC (Kd.R_reads' HO_110001.out).2.2); (case side4 => exact (Kd.R_reads' HO_110001.out).2.1); (case side5 => exact pC (Kd.R_reads' HO_11.out).2.2); (case side6 => exact (Kd.R_reads' HO_11.out).2.1); rintro e w53 ⟨rfl, hb⟩; replace HO_11 := rb HO_11 hb; replace HO_110000 := rb HO_110000 hb; replace HO_110001 := rb HO_110001 hb; replace BK101 := bb BK101 hb; replace BK102 := bb BK102 hb; replace BK109 := bb BK109 hb; replace HB := bs HB hb; (try clear hb); (try clear hb2); (try clear hk); (try clear hi)))
       go_meet
       case rel => exact ⟨_, (decide (t130 ≤ (wrap64 (a1)))), (by first | rfl | (simp; done) | (simp [*]; done)), H', ⟨by have := HJ8.out; first | omega | exact Nat.le_refl _⟩, ⟨pR HO_11.out⟩, ⟨pR HO_110000.out⟩, ⟨pR HO_110001.out⟩, ⟨pB BK101.out⟩, ⟨pB BK102.out⟩, ⟨pB BK109.out⟩, ⟨pE HB⟩⟩
      ·
       rw [if_neg c45] at H
       have c45b0 : decide (1 < t116) = false := decide_eq_false c45
       clear c45
       have H' := Aside0.mk H
       clear H
       have hnb54 := NB109_101.out
       have hnc54 := NB101_109.out
       have hnb55 := NB109_102.out
       have hnc55 := NB102_109.out
       obtain ⟨hcz56_0, hcz56_1, hfz56_0, hfz56_1⟩ := cf2 BK109
       obtain ⟨Ao57, co57, eo57⟩ := Kd.R_slice HO_11.out
       subst eo57
       go_wp2_with (first | ((with_reducible refine gc 54 rfl ?_); refine gL 76 Tryz.func54 #[.agg #[.slice Ao16 t103.length co16, .slice Ao20 t106.length co20], .slice Ao57 t124.length co57, .int .i64 t116] ?_; (with_reducible refine (walkmilllaw04_worst.calls kj8 _ _ t103 _ _ t106 _ _ t124 t116 t129 _ ?side1 ?side2 ?side3 ?side4 ?side5 ?side6 A43.out).mono ?_); (case side1 => exact pC (Kd.R_reads' HO_110000.out).2.2); (case side2 => exact (Kd.R_reads' HO_110000.out).2.1); (case side3 => exact pC (Kd.R_reads' HO_110001.out).2.2); (case side4 => exact (Kd.R_reads' HO_110001.out).2.1); (case side5 => exact pC (Kd.R_reads' HO_11.out).2.2); (case side6 => exact (Kd.R_reads' HO_11.out).2.1); rintro e w58 ⟨rfl, hb⟩; refine ⟨_, rfl, ?_⟩; replace HO_11 := rb HO_11 hb; replace HO_110000 := rb HO_110000 hb; replace HO_110001 := rb HO_110001 hb; replace BK101 := bb BK101 hb; replace BK102 := bb BK102 hb; replace BK109 := bb BK109 hb; replace HB := bs HB hb; clear hb))
       go_meet
       case rel => exact ⟨_, (false), (by first | rfl | (simp; done) | (simp [*]; done)), H', ⟨by have := HJ8.out; first | omega | exact Nat.le_refl _⟩, ⟨pR HO_11.out⟩, ⟨pR HO_110000.out⟩, ⟨pR HO_110001.out⟩, ⟨pB BK101.out⟩, ⟨pB BK102.out⟩, ⟨pB BK109.out⟩, ⟨pE HB⟩⟩
    case rest =>
     clear HC42
     try clear c1
     try clear c2
     try clear p2
     try clear c3
     try clear c4
     try clear c5
     try clear p6
     try clear c12
     try clear c13
     try clear c17
     try clear c18
     try clear c20
     try clear c30
     try clear c30b0
     try clear c30b1
     try clear c31
     try clear c31b0
     try clear c31b1
     try clear c32
     try clear c32b0
     try clear c33
     try clear c34
     try clear c34b0
     try clear c36
     try clear c37
     try clear c41
     try clear c44
     try clear c44b0
     try clear c45
     try clear c45b0
     try clear c47
     try clear c48
     try clear c49
     try clear c54
     try clear c55
     try clear hcz13_0
     try clear hcz13_1
     try clear hcz13_2
     try clear hcz19_0
     try clear hcz19_1
     try clear hcz25_0
     try clear hcz25_1
     try clear hcz38_0
     try clear hcz38_1
     try clear hcz49_0
     try clear hcz49_1
     try clear hcz52_0
     try clear hcz52_1
     try clear hcz56_0
     try clear hcz56_1
     try clear hfz13_0
     try clear hfz13_1
     try clear hfz13_2
     try clear hfz19_0
     try clear hfz19_1
     try clear hfz25_0
     try clear hfz25_1
     try clear hfz38_0
     try clear hfz38_1
     try clear hfz49_0
     try clear hfz49_1
     try clear hfz52_0
     try clear hfz52_1
     try clear hfz56_0
     try clear hfz56_1
     try clear p2
     try clear p6
     obtain ⟨kq, x91_41, rfl, HA, HJ41, HO_11, HO_110000, HO_110001, BK101, BK102, BK109, HB⟩ := hcut
     cases kq with
     | zero => exact absurd HA.out (by simp [walkmilllaw04_TurnEnough.j1])
     | succ kj41 =>
      have H := HA.out
      clear HA
      simp only [walkmilllaw04_TurnEnough.j1] at H
      by_cases c59 : x91_41 = true
      ·
       subst c59
       rw [if_pos rfl] at H
       exact absurd ((Option.some.inj H).trans HRT.out) (by simp)
      ·
       replace c59 := Bool.eq_false_iff.mpr c59
       subst c59
       rw [if_neg (show ¬ (false = true) by decide)] at H
       by_cases c60 : (t124.length : Int) = 0
       ·
        rw [if_pos c60] at H
        have c60b0 : ((t124.length : Int) == 0) = true := beq_iff_eq.mpr c60
        have c60b1 : ((t124.length : Int) != 0) = false := bne_eq_false_iff_eq.mpr c60
        clear c60
        obtain ⟨t131, A61, H⟩ := bi H
        obtain rfl := Option.some.inj H
        obtain ⟨Ao62, co62, eo62⟩ := Kd.R_slice HO_11.out
        subst eo62
        go_wp2_with (first | ((with_reducible refine gc 17 rfl ?_); refine gL 95 Tryz.func17 #[] ?_; (with_reducible refine (walkmilllaw04_known.calls  t131 _ A61.out).mono ?_); rintro e w63 ⟨rfl, hb⟩; refine ⟨_, rfl, ?_⟩; replace HO_11 := rb HO_11 hb; replace HO_110000 := rb HO_110000 hb; replace HO_110001 := rb HO_110001 hb; replace BK101 := bb BK101 hb; replace BK102 := bb BK102 hb; replace BK109 := bb BK109 hb; replace HB := bs HB hb; clear hb))
        go_ret
        exact ⟨eT, pE HB⟩
       ·
        rw [if_neg c60] at H
        have c60b0 : ((t124.length : Int) == 0) = false := beq_eq_false_iff_ne.mpr c60
        have c60b1 : ((t124.length : Int) != 0) = true := bne_iff_ne.mpr c60
        have c60b2 : ¬ (t124 = []) := fun h_ => c60 (by rw [h_]; rfl)
        obtain ⟨⟨t132, t135⟩, A64, H⟩ := bi H
        obtain ⟨⟨t138, t139, t140⟩, A65, H⟩ := bi H
        obtain ⟨⟨t141, t144⟩, A66, H⟩ := bi H
        obtain ⟨⟨t147, t148, t149⟩, A67, H⟩ := bi H
        obtain ⟨⟨t150, t153⟩, A68, H⟩ := bi H
        obtain ⟨ji69, hji69⟩ : ∃ j_ : Int, (Int.tmod (wrap64 (a2_1)) (t124.length : Int)) = j_ := ⟨_, rfl⟩
        replace H : (if 0 ≤ (ji69) then (if (ji69) < (t150.length : Int) then ((walkmilllaw04_span.f ((rd_T67 t150 (ji69)).f2.f0) ((rd_T67 t150 (ji69)).f2.f0)).bind fun bt160 => ((turn_Waits.f kj41 (t150.set ((ji69) : Int).toNat (⟨(rd_T67 t150 (ji69)).f0, (rd_T67 t150 (ji69)).f1, (⟨bt160.1, bt160.2⟩ : S42)⟩ : S67)) t153 (wrap64 (1 + (Int.tmod (wrap64 (a2_0)) 4)))).bind fun bt163 => (if 0 ≤ (wrap64 ((t124.length : Int) - 1)) then (if (wrap64 ((t124.length : Int) - 1)) < (t124.length : Int) then ((walkmilllaw04_own.f t103 t106).bind fun bt167 => (if 0 ≤ (rd t124 (wrap64 ((t124.length : Int) - 1))) then (if (rd t124 (wrap64 ((t124.length : Int) - 1))) ≤ (bt167.1.length : Int) then (if 0 ≤ (wrap64 ((rd t124 (wrap64 ((t124.length : Int) - 1))) + 1)) then (if (wrap64 ((rd t124 (wrap64 ((t124.length : Int) - 1))) + 1)) ≤ (bt167.1.length : Int) then ((turn_Waits.f kj41 (bt167.1.eraseIdx ((rd t124 (wrap64 ((t124.length : Int) - 1))) : Int).toNat) bt167.2 (wrap64 (1 + (Int.tmod (wrap64 (a2_0)) 4)))).bind fun bt185 => (if bt185.2.2 = 7 then (walkmilllaw04_TurnEnough.j2 kj41 t139 t140 t148 t149 bt163.2.1 bt163.2.2 bt185.2.1 bt185.2.2 ((t124.length : Int) == 1)) else (walkmilllaw04_TurnEnough.j2 kj41 t139 t140 t148 t149 bt163.2.1 bt163.2.2 bt185.2.1 bt185.2.2 false))) else (none)) else (none)) else (none)) else (none))) else (none)) else (none)))) else (none)) else (none)) = some r := by first | (rw [hji69] at H; exact H) | (simp only [hji69] at H ⊢; exact H)
        (try rw [hji69] at A64)
        (try rw [hji69] at A65)
        (try rw [hji69] at A66)
        (try rw [hji69] at A67)
        (try rw [hji69] at A68)
        by_cases c70 : 0 ≤ (ji69)
        ·
         rw [if_pos c70] at H
         have c70b0 : decide (0 ≤ (ji69)) = true := decide_eq_true c70
         clear c70
         by_cases c71 : (ji69) < (t150.length : Int)
         ·
          rw [if_pos c71] at H
          have c71b0 : decide ((ji69) < (t150.length : Int)) = true := decide_eq_true c71
          clear c71
          obtain ⟨⟨t160, t161⟩, A73, H⟩ := bi H
          obtain ⟨y162, hy162⟩ : ∃ y_ : List (S67), y_ = (t150.set ((ji69) : Int).toNat (⟨(rd_T67 t150 (ji69)).f0, (rd_T67 t150 (ji69)).f1, (⟨t160, t161⟩ : S42)⟩ : S67)) := ⟨_, rfl⟩
          replace H : Option.bind (turn_Waits.f kj41 y162 t153 (wrap64 (1 + (Int.tmod (wrap64 (a2_0)) 4)))) _ = some r := yy hy162 H
          have Ny162 := Aside0.mk hy162
          clear hy162
          obtain ⟨⟨t163, t164, t165⟩, A74, H⟩ := bi H
          obtain ⟨ji75, hji75⟩ : ∃ j_ : Int, (wrap64 ((t124.length : Int) - 1)) = j_ := ⟨_, rfl⟩
          replace H : (if 0 ≤ (ji75) then (if (ji75) < (t124.length : Int) then ((walkmilllaw04_own.f t103 t106).bind fun bt167 => (if 0 ≤ (rd t124 (ji75)) then (if (rd t124 (ji75)) ≤ (bt167.1.length : Int) then (if 0 ≤ (wrap64 ((rd t124 (ji75)) + 1)) then (if (wrap64 ((rd t124 (ji75)) + 1)) ≤ (bt167.1.length : Int) then ((turn_Waits.f kj41 (bt167.1.eraseIdx ((rd t124 (ji75)) : Int).toNat) bt167.2 (wrap64 (1 + (Int.tmod (wrap64 (a2_0)) 4)))).bind fun bt185 => (if bt185.2.2 = 7 then (walkmilllaw04_TurnEnough.j2 kj41 t139 t140 t148 t149 t164 t165 bt185.2.1 bt185.2.2 ((t124.length : Int) == 1)) else (walkmilllaw04_TurnEnough.j2 kj41 t139 t140 t148 t149 t164 t165 bt185.2.1 bt185.2.2 false))) else (none)) else (none)) else (none)) else (none))) else (none)) else (none)) = some r := by first | (rw [hji75] at H; exact H) | (simp only [hji75] at H ⊢; exact H)
          (try rw [hji75] at A64)
          (try rw [hji75] at A65)
          (try rw [hji75] at A66)
          (try rw [hji75] at A67)
          (try rw [hji75] at A68)
          (try rw [hji75] at A73)
          (try rw [hji75] at A74)
          have hji75w : (IntKind.i64.wrap ((t124.length : Int) - 1)) = ji75 := (i64_w _).trans hji75
          by_cases c76 : 0 ≤ (ji75)
          ·
           rw [if_pos c76] at H
           have c76b0 : decide (0 ≤ (ji75)) = true := decide_eq_true c76
           clear c76
           by_cases c77 : (ji75) < (t124.length : Int)
           ·
            rw [if_pos c77] at H
            have c77b0 : decide ((ji75) < (t124.length : Int)) = true := decide_eq_true c77
            clear c77
            obtain ⟨⟨t167, t170⟩, A78, H⟩ := bi H
            by_cases c79 : 0 ≤ (rd t124 (ji75))
            ·
             rw [if_pos c79] at H
             have c79b0 := eq_true c79
             have c79b1 : decide (0 ≤ (rd t124 (ji75))) = true := decide_eq_true c79
             clear c79
             by_cases c80 : (rd t124 (ji75)) ≤ (t167.length : Int)
             ·
              rw [if_pos c80] at H
              have c80b0 := eq_true c80
              have c80b1 : decide ((rd t124 (ji75)) ≤ (t167.length : Int)) = true := decide_eq_true c80
              clear c80
              obtain ⟨y174, hy174⟩ : ∃ y_ : List (S67), y_ = (t167.take ((rd t124 (ji75)) : Int).toNat) := ⟨_, rfl⟩
              replace H : (if 0 ≤ (wrap64 ((rd t124 (ji75)) + 1)) then (if (wrap64 ((rd t124 (ji75)) + 1)) ≤ (t167.length : Int) then ((turn_Waits.f kj41 (t167.eraseIdx ((rd t124 (ji75)) : Int).toNat) t170 (wrap64 (1 + (Int.tmod (wrap64 (a2_0)) 4)))).bind fun bt185 => (if bt185.2.2 = 7 then (walkmilllaw04_TurnEnough.j2 kj41 t139 t140 t148 t149 t164 t165 bt185.2.1 bt185.2.2 ((t124.length : Int) == 1)) else (walkmilllaw04_TurnEnough.j2 kj41 t139 t140 t148 t149 t164 t165 bt185.2.1 bt185.2.2 false))) else (none)) else (none)) = some r := yy hy174 H
              have Ny174 := Aside0.mk hy174
              clear hy174
              obtain ⟨ji81, hji81⟩ : ∃ j_ : Int, (wrap64 ((rd t124 (ji75)) + 1)) = j_ := ⟨_, rfl⟩
              replace H : (if 0 ≤ (ji81) then (if (ji81) ≤ (t167.length : Int) then ((turn_Waits.f kj41 (t167.eraseIdx ((rd t124 (ji75)) : Int).toNat) t170 (wrap64 (1 + (Int.tmod (wrap64 (a2_0)) 4)))).bind fun bt185 => (if bt185.2.2 = 7 then (walkmilllaw04_TurnEnough.j2 kj41 t139 t140 t148 t149 t164 t165 bt185.2.1 bt185.2.2 ((t124.length : Int) == 1)) else (walkmilllaw04_TurnEnough.j2 kj41 t139 t140 t148 t149 t164 t165 bt185.2.1 bt185.2.2 false))) else (none)) else (none)) = some r := by first | (rw [hji81] at H; exact H) | (simp only [hji81] at H ⊢; exact H)
              (try rw [hji81] at A64)
              (try rw [hji81] at A65)
              (try rw [hji81] at A66)
              (try rw [hji81] at A67)
              (try rw [hji81] at A68)
              (try rw [hji81] at A73)
              (try rw [hji81] at A74)
              (try rw [hji81] at A78)
              have hji81w : (IntKind.i64.wrap ((rd t124 (ji75)) + 1)) = ji81 := (i64_w _).trans hji81
              by_cases c82 : 0 ≤ (ji81)
              ·
               rw [if_pos c82] at H
               have c82b0 := eq_true c82
               have c82b1 : decide (0 ≤ (ji81)) = true := decide_eq_true c82
               clear c82
               by_cases c83 : (ji81) ≤ (t167.length : Int)
               ·
                rw [if_pos c83] at H
                have c83b0 := eq_true c83
                have c83b1 : decide ((ji81) ≤ (t167.length : Int)) = true := decide_eq_true c83
                clear c83
                obtain ⟨y178, hy178⟩ : ∃ y_ : List (S67), y_ = (t167.drop ((ji81) : Int).toNat) := ⟨_, rfl⟩
                replace H : ((turn_Waits.f kj41 (t167.eraseIdx ((rd t124 (ji75)) : Int).toNat) t170 (wrap64 (1 + (Int.tmod (wrap64 (a2_0)) 4)))).bind fun bt185 => (if bt185.2.2 = 7 then (walkmilllaw04_TurnEnough.j2 kj41 t139 t140 t148 t149 t164 t165 bt185.2.1 bt185.2.2 ((t124.length : Int) == 1)) else (walkmilllaw04_TurnEnough.j2 kj41 t139 t140 t148 t149 t164 t165 bt185.2.1 bt185.2.2 false))) = some r := yy hy178 H
                have Ny178 := Aside0.mk hy178
                clear hy178
                obtain ⟨y182, hy182⟩ : ∃ y_ : List (S67), y_ = (t167.eraseIdx ((rd t124 (ji75)) : Int).toNat) := ⟨_, rfl⟩
                replace H : Option.bind (turn_Waits.f kj41 y182 t170 (wrap64 (1 + (Int.tmod (wrap64 (a2_0)) 4)))) _ = some r := yy hy182 H
                have Ny182 := Aside0.mk hy182
                clear hy182
                obtain ⟨⟨t185, t186, t187⟩, A84, H⟩ := bi H
                have HC85 := Aside0.mk H
                clear H
                obtain ⟨Ao86, co86, eo86⟩ := Kd.R_slice HO_11.out
                subst eo86
                have hnb87 := NB102_101.out
                have hnc87 := NB101_102.out
                have hnb88 := NB102_109.out
                have hnc88 := NB109_102.out
                obtain ⟨_, _, _, _⟩ := cf2 BK102
                have hnb90 := NB109_101.out
                have hnc90 := NB101_109.out
                obtain ⟨_, _, _, _⟩ := cf2 BK109
                try go_wp2_with (first | ((with_reducible refine gc 49 rfl ?_); refine gL 103 Tryz.func49 #[.agg #[.slice Ao16 t103.length co16, .slice Ao20 t106.length co20]] ?_; (with_reducible refine (walkmilllaw04_own.calls _ _ t103 _ _ t106 t132 t135 _ ?side1 ?side2 ?side3 ?side4 A64.out).mono ?_); (case side1 => exact pC (Kd.R_reads' HO_110000.out).2.2); (case side2 => exact (Kd.R_reads' HO_110000.out).2.1); (case side3 => exact pC (Kd.R_reads' HO_110001.out).2.2); (case side4 => exact (Kd.R_reads' HO_110001.out).2.1); rintro e w92 ⟨v133, v136, rfl, ho0, ho1, hb⟩; refine ⟨_, rfl, ?_⟩; have HO134 := Aside0.mk (Kd.R_lower (Kd.R_new' ho0 (Kd.R_lt (pR HO_110000.out))) (below_size (pE HB))); replace HO_110000 := re HO_110000 ho0 hb; have HO137 := Aside0.mk (Kd.R_lower (Kd.R_new' (Kd.R_new' ho1 (Kd.R_lt (pR HO_11.out))) (Kd.R_lt (pR HO_110001.out))) (below_size (pE HB))); replace HO_11 := re HO_11 ho1 hb; replace HO_110001 := re HO_110001 ho1 hb; replace BK101 := bb BK101 hb; replace BK102 := bb BK102 hb; replace BK109 := bb BK109 hb; replace HB := bs HB hb; clear hb ho0 ho1; obtain ⟨Ao93, co93, eo93⟩ := Kd.R_slice HO134.out; subst eo93; obtain ⟨Ao94, co94, eo94⟩ := Kd.R_slice HO137.out; subst eo94) | ((with_reducible refine gc 26 rfl ?_); refine gL 105 Tryz.func26 #[.agg #[.slice Ao93 t132.length co93, .slice Ao94 t135.length co94], .int .i64 (wrap64 (1 + (Int.tmod (wrap64 (a2_0)) 4)))] ?_; (with_reducible refine (turn_Waits.calls kj41 _ _ t132 _ _ t135 (wrap64 (1 + (Int.tmod (wrap64 (a2_0)) 4))) t138 t139 t140 _ ?side1 ?side2 ?side3 ?side4 A65.out).mono ?_); (case side1 => exact pC (Kd.R_reads' HO134.out).2.2); (case side2 => exact (Kd.R_reads' HO134.out).2.1); (case side3 => exact pC (Kd.R_reads' HO137.out).2.2); (case side4 => exact (Kd.R_reads' HO137.out).2.1); rintro e w95 ⟨rfl, hb⟩; refine ⟨_, rfl, ?_⟩; replace HO_11 := rb HO_11 hb; replace HO_110000 := rb HO_110000 hb; replace HO_110001 := rb HO_110001 hb; replace HO134 := rb HO134 hb; replace HO137 := rb HO137 hb; replace BK101 := bb BK101 hb; replace BK102 := bb BK102 hb; replace BK109 := bb BK109 hb; replace HB := bs HB hb; clear hb; obtain ⟨_, _, _, _⟩ := cf2 BK109) | ((with_reducible refine gc 49 rfl ?_); refine gL 111 Tryz.func49 #[.agg #[.slice Ao16 t103.length co16, .slice Ao20 t106.length co20]] ?_; (with_reducible refine (walkmilllaw04_own.calls _ _ t103 _ _ t106 t141 t144 _ ?side1 ?side2 ?side3 ?side4 A66.out).mono ?_); (case side1 => exact pC (Kd.R_reads' HO_110000.out).2.2); (case side2 => exact (Kd.R_reads' HO_110000.out).2.1); (case side3 => exact pC (Kd.R_reads' HO_110001.out).2.2); (case side4 => exact (Kd.R_reads' HO_110001.out).2.1); rintro e w97 ⟨v142, v145, rfl, ho0, ho1, hb⟩; refine ⟨_, rfl, ?_⟩; have HO143 := Aside0.mk (Kd.R_lower (Kd.R_new' (Kd.R_new' ho0 (Kd.R_lt (pR HO_110000.out))) (Kd.R_lt (pR HO134.out))) (below_size (pE HB))); replace HO_110000 := re HO_110000 ho0 hb; replace HO134 := re HO134 ho0 hb; have HO146 := Aside0.mk (Kd.R_lower (Kd.R_new' (Kd.R_new' (Kd.R_new' ho1 (Kd.R_lt (pR HO_11.out))) (Kd.R_lt (pR HO_110001.out))) (Kd.R_lt (pR HO137.out))) (below_size (pE HB))); replace HO_11 := re HO_11 ho1 hb; replace HO_110001 := re HO_110001 ho1 hb; replace HO137 := re HO137 ho1 hb; replace BK101 := bb BK101 hb; replace BK102 := bb BK102 hb; replace BK109 := bb BK109 hb; replace HB := bs HB hb; clear hb ho0 ho1; obtain ⟨Ao98, co98, eo98⟩ := Kd.R_slice HO143.out; subst eo98; obtain ⟨Ao99, co99, eo99⟩ := Kd.R_slice HO146.out; subst eo99) | ((with_reducible refine gc 26 rfl ?_); refine gL 114 Tryz.func26 #[.agg #[.slice Ao98 t141.length co98, .slice Ao99 t144.length co99], .int .i64 (wrap64 ((wrap64 (1 + (Int.tmod (wrap64 (a2_0)) 4))) + 1))] ?_; (with_reducible refine (turn_Waits.calls kj41 _ _ t141 _ _ t144 (wrap64 ((wrap64 (1 + (Int.tmod (wrap64 (a2_0)) 4))) + 1)) t147 t148 t149 _ ?side1 ?side2 ?side3 ?side4 A67.out).mono ?_); (case side1 => exact pC (Kd.R_reads' HO143.out).2.2); (case side2 => exact (Kd.R_reads' HO143.out).2.1); (case side3 => exact pC (Kd.R_reads' HO146.out).2.2); (case side4 => exact (Kd.R_reads' HO146.out).2.1); rintro e w100 ⟨rfl, hb⟩; refine ⟨_, rfl, ?_⟩; replace HO_11 := rb HO_11 hb; replace HO_110000 := rb HO_110000 hb; replace HO_110001 := rb HO_110001 hb; replace HO134 := rb HO134 hb; replace HO137 := rb HO137 hb; replace HO143 := rb HO143 hb; replace HO146 := rb HO146 hb; replace BK101 := bb BK101 hb; replace BK102 := bb BK102 hb; replace BK109 := bb BK109 hb; replace HB := bs HB hb; clear hb; obtain ⟨_, _, _, _⟩ := cf2 BK109) | ((with_reducible refine gc 49 rfl ?_); refine gL 119 Tryz.func49 #[.agg #[.slice Ao16 t103.length co16, .slice Ao20 t106.length co20]] ?_; (with_reducible refine (walkmilllaw04_own.calls _ _ t103 _ _ t106 t150 t153 _ ?side1 ?side2 ?side3 ?side4 A68.out).mono ?_); (case side1 => exact pC (Kd.R_reads' HO_110000.out).2.2); (case side2 => exact (Kd.R_reads' HO_110000.out).2.1); (case side3 => exact pC (Kd.R_reads' HO_110001.out).2.2); (case side4 => exact (Kd.R_reads' HO_110001.out).2.1); rintro e w102 ⟨v151, v154, rfl, ho0, ho1, hb⟩; refine ⟨_, rfl, ?_⟩; have HO152 := Aside0.mk (Kd.R_lower (Kd.R_new' (Kd.R_new' (Kd.R_new' ho0 (Kd.R_lt (pR HO_110000.out))) (Kd.R_lt (pR HO134.out))) (Kd.R_lt (pR HO143.out))) (below_size (pE HB))); replace HO_110000 := re HO_110000 ho0 hb; replace HO134 := re HO134 ho0 hb; replace HO143 := re HO143 ho0 hb; have HO155 := Aside0.mk (Kd.R_lower (Kd.R_new' (Kd.R_new' (Kd.R_new' (Kd.R_new' ho1 (Kd.R_lt (pR HO_11.out))) (Kd.R_lt (pR HO_110001.out))) (Kd.R_lt (pR HO137.out))) (Kd.R_lt (pR HO146.out))) (below_size (pE HB))); replace HO_11 := re HO_11 ho1 hb; replace HO_110001 := re HO_110001 ho1 hb; replace HO137 := re HO137 ho1 hb; replace HO146 := re HO146 ho1 hb; replace BK101 := bb BK101 hb; replace BK102 := bb BK102 hb; replace BK109 := bb BK109 hb; replace HB := bs HB hb; clear hb ho0 ho1) | ((with_reducible refine gate_dst (N := 20) rfl ?_); (try (refine gate_guard (by rfl) ?_; dsimp only)); refine bx 20 #[.slice none 0 0, .slice none 0 0] 25 ?_; intro gb156 hg w103 hbox hb; replace HO_11 := rb HO_11 hb; replace HO_110000 := rb HO_110000 hb; replace HO_110001 := rb HO_110001 hb; replace HO134 := rb HO134 hb; replace HO137 := rb HO137 hb; replace HO143 := rb HO143 hb; replace HO146 := rb HO146 hb; replace HO152 := rb HO152 hb; replace HO155 := rb HO155 hb; have BK156 := hbox; have GW156 := gs HB hg; have GE156 := gs HB hg; replace HB := bs HB hb; have NB101_156 := nl BK101 hg; have NB156_101 := nr BK101 hg; replace BK101 := bb BK101 hb; have NB102_156 := nl BK102 hg; have NB156_102 := nr BK102 hg; replace BK102 := bb BK102 hb; have NB109_156 := nl BK109 hg; have NB156_109 := nr BK109 hg; replace BK109 := bb BK109 hb; clear hb hbox hg; obtain ⟨Ao104, co104, eo104⟩ := Kd.R_slice HO152.out; subst eo104; have hnb105 := NB156_101.out; have hnc105 := NB101_156.out; have hnb106 := NB156_102.out; have hnc106 := NB102_156.out; have hnb107 := NB156_109.out; have hnc107 := NB109_156.out; obtain ⟨_, _, _, _⟩ := cf2 BK156; obtain ⟨Ao109, co109, eo109⟩ := Kd.R_slice HO155.out; subst eo109))
                have n0_ : Aside0 (Kd.R (Kd.int .i64) 3 ((w103.setCell ⟨gb156, 0, none⟩ (.slice Ao104 t150.length co104)).setCell ⟨gb156, 1, none⟩ (.slice Ao109 t153.length co109)) w.heap.size (fun k_ => some k_ ≠ (.slice Ao20 t106.length co20 : Value).ownBlock ∧ some k_ ≠ (.slice Ao94 t135.length co94 : Value).ownBlock ∧ some k_ ≠ (.slice Ao99 t144.length co99 : Value).ownBlock ∧ some k_ ≠ (.slice Ao109 t153.length co109 : Value).ownBlock) (.slice Ao86 t124.length co86) t124) := ⟨by (with_reducible repeat (first | apply Kd.R_alloc | apply Kd.R_drewN | apply Kd.R_drew)); exact Kd.R_mono (Kd.R_far (p := ⟨gb156, 1, none⟩) (Kd.R_far (p := ⟨gb156, 0, none⟩) (Kd.R_types HO_11.out BK156.out (by decide)) (fun _ hk => hk.2) (.slice Ao104 t150.length co104)) (fun _ hk => hk.2) (.slice Ao109 t153.length co109)) (fun _ hk => ⟨hk.1.1.1.1, ⟨hk.1.1.1.2, ⟨hk.1.1.2, hk.1.2⟩⟩⟩)⟩
                have n1_ : Aside0 (Kd.R k67 67 ((w103.setCell ⟨gb156, 0, none⟩ (.slice Ao104 t150.length co104)).setCell ⟨gb156, 1, none⟩ (.slice Ao109 t153.length co109)) w.heap.size (fun k_ => some k_ ≠ (.slice Ao93 t132.length co93 : Value).ownBlock ∧ some k_ ≠ (.slice Ao98 t141.length co98 : Value).ownBlock ∧ some k_ ≠ (.slice Ao104 t150.length co104 : Value).ownBlock) (.slice Ao16 t103.length co16) t103) := ⟨by (with_reducible repeat (first | apply Kd.R_alloc | apply Kd.R_drewN | apply Kd.R_drew)); exact Kd.R_mono (Kd.R_far (p := ⟨gb156, 1, none⟩) (Kd.R_far (p := ⟨gb156, 0, none⟩) (Kd.R_types HO_110000.out BK156.out (by decide)) (fun _ hk => hk.2) (.slice Ao104 t150.length co104)) (fun _ hk => hk.2) (.slice Ao109 t153.length co109)) (fun _ hk => ⟨hk.1.1.1.2, ⟨hk.1.1.2, hk.1.2⟩⟩)⟩
                have n2_ : Aside0 (Kd.R (Kd.int .i64) 3 ((w103.setCell ⟨gb156, 0, none⟩ (.slice Ao104 t150.length co104)).setCell ⟨gb156, 1, none⟩ (.slice Ao109 t153.length co109)) w.heap.size (fun k_ => some k_ ≠ (.slice Ao86 t124.length co86 : Value).ownBlock ∧ some k_ ≠ (.slice Ao94 t135.length co94 : Value).ownBlock ∧ some k_ ≠ (.slice Ao99 t144.length co99 : Value).ownBlock ∧ some k_ ≠ (.slice Ao109 t153.length co109 : Value).ownBlock) (.slice Ao20 t106.length co20) t106) := ⟨by (with_reducible repeat (first | apply Kd.R_alloc | apply Kd.R_drewN | apply Kd.R_drew)); exact Kd.R_mono (Kd.R_far (p := ⟨gb156, 1, none⟩) (Kd.R_far (p := ⟨gb156, 0, none⟩) (Kd.R_types HO_110001.out BK156.out (by decide)) (fun _ hk => hk.2) (.slice Ao104 t150.length co104)) (fun _ hk => hk.2) (.slice Ao109 t153.length co109)) (fun _ hk => ⟨hk.1.1.1.1, ⟨hk.1.1.1.2, ⟨hk.1.1.2, hk.1.2⟩⟩⟩)⟩
                have n3_ : Aside0 (Kd.R k67 67 ((w103.setCell ⟨gb156, 0, none⟩ (.slice Ao104 t150.length co104)).setCell ⟨gb156, 1, none⟩ (.slice Ao109 t153.length co109)) w.heap.size (fun k_ => some k_ ≠ (.slice Ao16 t103.length co16 : Value).ownBlock ∧ some k_ ≠ (.slice Ao98 t141.length co98 : Value).ownBlock ∧ some k_ ≠ (.slice Ao104 t150.length co104 : Value).ownBlock) (.slice Ao93 t132.length co93) t132) := ⟨by (with_reducible repeat (first | apply Kd.R_alloc | apply Kd.R_drewN | apply Kd.R_drew)); exact Kd.R_mono (Kd.R_far (p := ⟨gb156, 1, none⟩) (Kd.R_far (p := ⟨gb156, 0, none⟩) (Kd.R_types HO134.out BK156.out (by decide)) (fun _ hk => hk.2) (.slice Ao104 t150.length co104)) (fun _ hk => hk.2) (.slice Ao109 t153.length co109)) (fun _ hk => ⟨hk.1.1.1.2, ⟨hk.1.1.2, hk.1.2⟩⟩)⟩
                have n4_ : Aside0 (Kd.R (Kd.int .i64) 3 ((w103.setCell ⟨gb156, 0, none⟩ (.slice Ao104 t150.length co104)).setCell ⟨gb156, 1, none⟩ (.slice Ao109 t153.length co109)) w.heap.size (fun k_ => some k_ ≠ (.slice Ao86 t124.length co86 : Value).ownBlock ∧ some k_ ≠ (.slice Ao20 t106.length co20 : Value).ownBlock ∧ some k_ ≠ (.slice Ao99 t144.length co99 : Value).ownBlock ∧ some k_ ≠ (.slice Ao109 t153.length co109 : Value).ownBlock) (.slice Ao94 t135.length co94) t135) := ⟨by (with_reducible repeat (first | apply Kd.R_alloc | apply Kd.R_drewN | apply Kd.R_drew)); exact Kd.R_mono (Kd.R_far (p := ⟨gb156, 1, none⟩) (Kd.R_far (p := ⟨gb156, 0, none⟩) (Kd.R_types HO137.out BK156.out (by decide)) (fun _ hk => hk.2) (.slice Ao104 t150.length co104)) (fun _ hk => hk.2) (.slice Ao109 t153.length co109)) (fun _ hk => ⟨hk.1.1.1.1.2, ⟨hk.1.1.1.2, ⟨hk.1.1.2, hk.1.2⟩⟩⟩)⟩
                have n5_ : Aside0 (Kd.R k67 67 ((w103.setCell ⟨gb156, 0, none⟩ (.slice Ao104 t150.length co104)).setCell ⟨gb156, 1, none⟩ (.slice Ao109 t153.length co109)) w.heap.size (fun k_ => some k_ ≠ (.slice Ao16 t103.length co16 : Value).ownBlock ∧ some k_ ≠ (.slice Ao93 t132.length co93 : Value).ownBlock ∧ some k_ ≠ (.slice Ao104 t150.length co104 : Value).ownBlock) (.slice Ao98 t141.length co98) t141) := ⟨by (with_reducible repeat (first | apply Kd.R_alloc | apply Kd.R_drewN | apply Kd.R_drew)); exact Kd.R_mono (Kd.R_far (p := ⟨gb156, 1, none⟩) (Kd.R_far (p := ⟨gb156, 0, none⟩) (Kd.R_types HO143.out BK156.out (by decide)) (fun _ hk => hk.2) (.slice Ao104 t150.length co104)) (fun _ hk => hk.2) (.slice Ao109 t153.length co109)) (fun _ hk => ⟨hk.1.1.1.2, ⟨hk.1.1.2, hk.1.2⟩⟩)⟩
                have n6_ : Aside0 (Kd.R (Kd.int .i64) 3 ((w103.setCell ⟨gb156, 0, none⟩ (.slice Ao104 t150.length co104)).setCell ⟨gb156, 1, none⟩ (.slice Ao109 t153.length co109)) w.heap.size (fun k_ => some k_ ≠ (.slice Ao86 t124.length co86 : Value).ownBlock ∧ some k_ ≠ (.slice Ao20 t106.length co20 : Value).ownBlock ∧ some k_ ≠ (.slice Ao94 t135.length co94 : Value).ownBlock ∧ some k_ ≠ (.slice Ao109 t153.length co109 : Value).ownBlock) (.slice Ao99 t144.length co99) t144) := ⟨by (with_reducible repeat (first | apply Kd.R_alloc | apply Kd.R_drewN | apply Kd.R_drew)); exact Kd.R_mono (Kd.R_far (p := ⟨gb156, 1, none⟩) (Kd.R_far (p := ⟨gb156, 0, none⟩) (Kd.R_types HO146.out BK156.out (by decide)) (fun _ hk => hk.2) (.slice Ao104 t150.length co104)) (fun _ hk => hk.2) (.slice Ao109 t153.length co109)) (fun _ hk => ⟨hk.1.1.1.1.2, ⟨hk.1.1.1.2, ⟨hk.1.1.2, hk.1.2⟩⟩⟩)⟩
                have n7_ : Aside0 (Kd.R k67 67 ((w103.setCell ⟨gb156, 0, none⟩ (.slice Ao104 t150.length co104)).setCell ⟨gb156, 1, none⟩ (.slice Ao109 t153.length co109)) w.heap.size (fun k_ => some k_ ≠ (.slice Ao16 t103.length co16 : Value).ownBlock ∧ some k_ ≠ (.slice Ao93 t132.length co93 : Value).ownBlock ∧ some k_ ≠ (.slice Ao98 t141.length co98 : Value).ownBlock) (.slice Ao104 t150.length co104) t150) := ⟨by (with_reducible repeat (first | apply Kd.R_alloc | apply Kd.R_drewN | apply Kd.R_drew)); exact Kd.R_mono (Kd.R_far (p := ⟨gb156, 1, none⟩) (Kd.R_far (p := ⟨gb156, 0, none⟩) (Kd.R_types HO152.out BK156.out (by decide)) (fun _ hk => hk.2) (.slice Ao104 t150.length co104)) (fun _ hk => hk.2) (.slice Ao109 t153.length co109)) (fun _ hk => ⟨hk.1.1.1.2, ⟨hk.1.1.2, hk.1.2⟩⟩)⟩
                have n8_ : Aside0 (Kd.R (Kd.int .i64) 3 ((w103.setCell ⟨gb156, 0, none⟩ (.slice Ao104 t150.length co104)).setCell ⟨gb156, 1, none⟩ (.slice Ao109 t153.length co109)) w.heap.size (fun k_ => some k_ ≠ (.slice Ao86 t124.length co86 : Value).ownBlock ∧ some k_ ≠ (.slice Ao20 t106.length co20 : Value).ownBlock ∧ some k_ ≠ (.slice Ao94 t135.length co94 : Value).ownBlock ∧ some k_ ≠ (.slice Ao99 t144.length co99 : Value).ownBlock) (.slice Ao109 t153.length co109) t153) := ⟨by (with_reducible repeat (first | apply Kd.R_alloc | apply Kd.R_drewN | apply Kd.R_drew)); exact Kd.R_mono (Kd.R_far (p := ⟨gb156, 1, none⟩) (Kd.R_far (p := ⟨gb156, 0, none⟩) (Kd.R_types HO155.out BK156.out (by decide)) (fun _ hk => hk.2) (.slice Ao104 t150.length co104)) (fun _ hk => hk.2) (.slice Ao109 t153.length co109)) (fun _ hk => ⟨hk.1.1.1.1.2, ⟨hk.1.1.1.2, ⟨hk.1.1.2, hk.1.2⟩⟩⟩)⟩
                have n9_ : Aside0 (((w103.setCell ⟨gb156, 0, none⟩ (.slice Ao104 t150.length co104)).setCell ⟨gb156, 1, none⟩ (.slice Ao109 t153.length co109)).heap[gb101]? = some (.cells #[.slice A0_0 l0_0.length c0_0, .int .u8 a0_1, .slice A0_2 l0_2.length c0_2] 76 (0, 0))) := ⟨pF BK101⟩
                have n10_ : Aside0 (((w103.setCell ⟨gb156, 0, none⟩ (.slice Ao104 t150.length co104)).setCell ⟨gb156, 1, none⟩ (.slice Ao109 t153.length co109)).heap[gb102]? = some (.cells #[.int .u8 a2_0, .int .u8 a2_1] 84 (0, 0))) := ⟨pF BK102⟩
                have n11_ : Aside0 (((w103.setCell ⟨gb156, 0, none⟩ (.slice Ao104 t150.length co104)).setCell ⟨gb156, 1, none⟩ (.slice Ao109 t153.length co109)).heap[gb109]? = some (.cells #[.slice Ao16 t103.length co16, .slice Ao20 t106.length co20] 25 (0, 0))) := ⟨pF BK109⟩
                have n12_ : Aside0 (((w103.setCell ⟨gb156, 0, none⟩ (.slice Ao104 t150.length co104)).setCell ⟨gb156, 1, none⟩ (.slice Ao109 t153.length co109)).heap[gb156]? = some (.cells #[.slice Ao104 t150.length co104, .slice Ao109 t153.length co109] 25 (0, 0))) := ⟨by refine pB ?_; refine blk_put (cs := #[.slice Ao104 t150.length co104, .slice none 0 0]) ?_ 1 _ rfl; refine pB ?_; refine blk_put (cs := #[.slice none 0 0, .slice none 0 0]) ?_ 0 _ rfl; exact pB BK156.out⟩
                have n13_ : Aside0 (Below w.heap.size w ((w103.setCell ⟨gb156, 0, none⟩ (.slice Ao104 t150.length co104)).setCell ⟨gb156, 1, none⟩ (.slice Ao109 t153.length co109))) := ⟨pE HB⟩
                (try clear HO_11)
                (try clear HO_110000)
                (try clear HO_110001)
                (try clear HO134)
                (try clear HO137)
                (try clear HO143)
                (try clear HO146)
                (try clear HO152)
                (try clear HO155)
                (try clear BK101)
                (try clear BK102)
                (try clear BK109)
                (try clear BK156)
                (try clear HB)
                generalize ((w103.setCell ⟨gb156, 0, none⟩ (.slice Ao104 t150.length co104)).setCell ⟨gb156, 1, none⟩ (.slice Ao109 t153.length co109)) = w110 at n0_ n1_ n2_ n3_ n4_ n5_ n6_ n7_ n8_ n9_ n10_ n11_ n12_ n13_ ⊢
                have HO_11 := n0_
                have HO_110000 := n1_
                have HO_110001 := n2_
                have HO134 := n3_
                have HO137 := n4_
                have HO143 := n5_
                have HO146 := n6_
                have HO152 := n7_
                have HO155 := n8_
                have BK101 := n9_
                have BK102 := n10_
                have BK109 := n11_
                have BK156 := n12_
                have HB := n13_
                clear n0_ n1_ n2_ n3_ n4_ n5_ n6_ n7_ n8_ n9_ n10_ n11_ n12_ n13_
                replace HO_11 := Aside0.mk (Kd.R_drew HO_11.out)
                replace HO_110000 := Aside0.mk (Kd.R_drew HO_110000.out)
                replace HO_110001 := Aside0.mk (Kd.R_drew HO_110001.out)
                replace HO134 := Aside0.mk (Kd.R_drew HO134.out)
                replace HO137 := Aside0.mk (Kd.R_drew HO137.out)
                replace HO143 := Aside0.mk (Kd.R_drew HO143.out)
                replace HO146 := Aside0.mk (Kd.R_drew HO146.out)
                replace HO152 := Aside0.mk (Kd.R_drew HO152.out)
                replace HO155 := Aside0.mk (Kd.R_drew HO155.out)
                replace BK101 := Aside0.mk (blk_drew BK101.out)
                replace BK102 := Aside0.mk (blk_drew BK102.out)
                replace BK109 := Aside0.mk (blk_drew BK109.out)
                replace BK156 := Aside0.mk (blk_drew BK156.out)
                replace HB := Aside0.mk (below_drew1 HB.out)
                have p157 : 0 ≤ ((ji69) : Int) := dT
                have q157 : (ji69) < (t150.length : Int) := dT
                obtain ⟨ad157, e157, hx157_0, hx157_1, hx157_2, hx157_3⟩ := at_T67 (Kd.R_reads' HO152.out).2.2 (ji69) p157 q157
                cases e157
                replace p157 := eq_true p157
                replace q157 := eq_true q157
                refine start_ (n := 10) (S := fun w' => w'.cell? ⟨gb156, 0, none⟩ = some (.slice (some ad157) t150.length co104) ∧ w'.cell? ⟨gb156, 1, none⟩ = some (.slice Ao109 t153.length co109) ∧ w'.cell? ⟨gb102, 0, none⟩ = some (.int .u8 a2_0) ∧ w'.cell? ⟨gb102, 1, none⟩ = some (.int .u8 a2_1) ∧ w'.cell? (ad157.add (((ji69)).toNat * 4)) = some (.int .i64 ((rd_T67 t150 (ji69)).f0)) ∧ w'.cell? ⟨(ad157.add (((ji69)).toNat * 4)).block, (ad157.add (((ji69)).toNat * 4)).off + 1, none⟩ = some (.int .i64 ((rd_T67 t150 (ji69)).f1)) ∧ w'.cell? ⟨(ad157.add (((ji69)).toNat * 4)).block, (ad157.add (((ji69)).toNat * 4)).off + 2, none⟩ = some (.int .i64 ((rd_T67 t150 (ji69)).f2.f0)) ∧ w'.cell? ⟨(ad157.add (((ji69)).toNat * 4)).block, (ad157.add (((ji69)).toNat * 4)).off + 3, none⟩ = some (.int .i64 ((rd_T67 t150 (ji69)).f2.f1))) (ds := []) #[false, false, false, false, false, false, false, false, false, false] (by kernel_rfl) rfl rfl ⟨(blk_cell BK156.out 0).trans rfl, (blk_cell BK156.out 1).trans rfl, (blk_cell BK102.out 0).trans rfl, (blk_cell BK102.out 1).trans rfl, hx157_0, hx157_1, hx157_2, hx157_3⟩ (fun hHeld => ?_); refine with_tabW walkmilllaw04_TurnEnough.tab14 walkmilllaw04_TurnEnough.bits14 (fun HT_ HW_ => ?_)
                generalize w110.drew = w111 at HO_11 HO_110000 HO_110001 HO134 HO137 HO143 HO146 HO152 HO155 BK101 BK102 BK109 BK156 HB hx157_0 hx157_1 hx157_2 hx157_3 hHeld ⊢
                refine pu 0 120 ?_
                refine pu 2 122 ?_
                refine pu 5 125 ?_
                refine pu 6 126 ?_
                refine tk 1 121 hHeld ?_
                refine tk 3 123 hHeld ?_
                refine pu 4 124 ?_
                refine pu 7 127 ?_
                refine pu 8 128 ?_
                refine pu 9 21 ?_
                refine done_ (done_of HT_.out (by kernel_rfl)) ?_
                try go_wp2
                replace HO_11 := Aside0.mk (Kd.R_drew HO_11.out)
                replace HO_110000 := Aside0.mk (Kd.R_drew HO_110000.out)
                replace HO_110001 := Aside0.mk (Kd.R_drew HO_110001.out)
                replace HO134 := Aside0.mk (Kd.R_drew HO134.out)
                replace HO137 := Aside0.mk (Kd.R_drew HO137.out)
                replace HO143 := Aside0.mk (Kd.R_drew HO143.out)
                replace HO146 := Aside0.mk (Kd.R_drew HO146.out)
                replace HO152 := Aside0.mk (Kd.R_drew HO152.out)
                replace HO155 := Aside0.mk (Kd.R_drew HO155.out)
                replace BK101 := Aside0.mk (blk_drew BK101.out)
                replace BK102 := Aside0.mk (blk_drew BK102.out)
                replace BK109 := Aside0.mk (blk_drew BK109.out)
                replace BK156 := Aside0.mk (blk_drew BK156.out)
                replace HB := Aside0.mk (below_drew1 HB.out)
                have p72 : 0 ≤ ((ji69) : Int) := dT
                have q72 : ((ji69) : Int) < ((t150.length : Int) : Int) := dT
                obtain ⟨go72, co72, eo72, gb72, gl72, cl72, HG72⟩ := Kd.R_form HO152.out (by omega)
                (first | cases eo72 | (injection eo72 with ea_ en_ ec_; (first | subst ea_ | (injection ea_ with ea_; subst ea_)); subst ec_; clear en_))
                have GB72 := Aside0.mk gb72
                have GG72 := Aside0.mk HG72
                clear gb72 gl72 HG72
                (first | simp only [add_plain] at hx157_0 | skip)
                (first | simp only [add_plain] at hx157_1 | skip)
                (first | simp only [add_plain] at hx157_2 | skip)
                (first | simp only [add_plain] at hx157_3 | skip)
                obtain ⟨ce72, hcl72, hM72, hcc72, hfr72⟩ := Kd.R_elem HO152.out z67 ((ji69) : Int) p72 q72
                obtain rfl := k67_openM hM72
                have hx72_0 : World.cell? _ ⟨go72, ((ji69) : Int).toNat * 4, none⟩ = some (.int .i64 ((rd_T67 t150 (ji69)).f0)) := hcc72 0 _ rfl
                have hx72_1 : World.cell? _ ⟨go72, ((ji69) : Int).toNat * 4 + 1, none⟩ = some (.int .i64 ((rd_T67 t150 (ji69)).f1)) := hcc72 1 _ rfl
                have hx72_2 : World.cell? _ ⟨go72, ((ji69) : Int).toNat * 4 + 2, none⟩ = some (.int .i64 ((rd_T67 t150 (ji69)).f2.f0)) := hcc72 2 _ rfl
                have hx72_3 : World.cell? _ ⟨go72, ((ji69) : Int).toNat * 4 + 3, none⟩ = some (.int .i64 ((rd_T67 t150 (ji69)).f2.f1)) := hcc72 3 _ rfl
                have hf72_0 : World.frozen? _ ⟨go72, ((ji69) : Int).toNat * 4, none⟩ = false := hfr72 0
                have hf72_1 : World.frozen? _ ⟨go72, ((ji69) : Int).toNat * 4 + 1, none⟩ = false := hfr72 1
                have hf72_2 : World.frozen? _ ⟨go72, ((ji69) : Int).toNat * 4 + 2, none⟩ = false := hfr72 2
                have hf72_3 : World.frozen? _ ⟨go72, ((ji69) : Int).toNat * 4 + 3, none⟩ = false := hfr72 3
                clear hcl72 hcc72 hfr72 hM72
                replace p72 := eq_true p72
                replace q72 := eq_true q72
                have p158 : 0 ≤ ((ji69) : Int) := dT
                have q158 : (ji69) < (t150.length : Int) := dT
                obtain ⟨ad158, e158, hx158_0, hx158_1, hx158_2, hx158_3⟩ := at_T67 (Kd.R_reads' HO152.out).2.2 (ji69) p158 q158
                obtain rfl : (⟨go72, 0, none⟩ : Addr) = ad158 := (by injection e158)
                (first | simp only [add_plain] at hx158_0 | simp only [add_at] at hx158_0 | simp only [Addr.add, Nat.zero_add] at hx158_0 | skip)
                (first | simp only [add_plain] at hx158_1 | simp only [add_at] at hx158_1 | simp only [Addr.add, Nat.zero_add] at hx158_1 | skip)
                (first | simp only [add_plain] at hx158_2 | simp only [add_at] at hx158_2 | simp only [Addr.add, Nat.zero_add] at hx158_2 | skip)
                (first | simp only [add_plain] at hx158_3 | simp only [add_at] at hx158_3 | simp only [Addr.add, Nat.zero_add] at hx158_3 | skip)
                replace p158 := eq_true p158
                replace q158 := eq_true q158
                have p159 : 0 ≤ ((ji69) : Int) := dT
                have q159 : (ji69) < (t150.length : Int) := dT
                obtain ⟨ad159, e159, hx159_0, hx159_1, hx159_2, hx159_3⟩ := at_T67 (Kd.R_reads' HO152.out).2.2 (ji69) p159 q159
                obtain rfl : (⟨go72, 0, none⟩ : Addr) = ad159 := (by injection e159)
                (first | simp only [add_plain] at hx159_0 | simp only [add_at] at hx159_0 | simp only [Addr.add, Nat.zero_add] at hx159_0 | skip)
                (first | simp only [add_plain] at hx159_1 | simp only [add_at] at hx159_1 | simp only [Addr.add, Nat.zero_add] at hx159_1 | skip)
                (first | simp only [add_plain] at hx159_2 | simp only [add_at] at hx159_2 | simp only [Addr.add, Nat.zero_add] at hx159_2 | skip)
                (first | simp only [add_plain] at hx159_3 | simp only [add_at] at hx159_3 | simp only [Addr.add, Nat.zero_add] at hx159_3 | skip)
                replace p159 := eq_true p159
                replace q159 := eq_true q159
                refine start_ (n := 15) (S := fun w' => w'.cell? ⟨go72, ((ji69)).toNat * 4, none⟩ = some (.int .i64 ((rd_T67 t150 (ji69)).f0)) ∧ w'.cell? ⟨go72, ((ji69)).toNat * 4 + 1, none⟩ = some (.int .i64 ((rd_T67 t150 (ji69)).f1)) ∧ w'.cell? ⟨go72, ((ji69)).toNat * 4 + 2, none⟩ = some (.int .i64 ((rd_T67 t150 (ji69)).f2.f0)) ∧ w'.cell? ⟨go72, ((ji69)).toNat * 4 + 3, none⟩ = some (.int .i64 ((rd_T67 t150 (ji69)).f2.f1)) ∧ w'.cell? ⟨go72, ((ji69)).toNat * 4, none⟩ = some (.int .i64 ((rd_T67 t150 (ji69)).f0)) ∧ w'.cell? ⟨go72, ((ji69)).toNat * 4 + 1, none⟩ = some (.int .i64 ((rd_T67 t150 (ji69)).f1)) ∧ w'.cell? ⟨go72, ((ji69)).toNat * 4 + 2, none⟩ = some (.int .i64 ((rd_T67 t150 (ji69)).f2.f0)) ∧ w'.cell? ⟨go72, ((ji69)).toNat * 4 + 3, none⟩ = some (.int .i64 ((rd_T67 t150 (ji69)).f2.f1))) (ds := [14]) #[false, false, false, false, false, false, false, false, false, false, false, false, false, false, false] (by kernel_rfl) rfl rfl ⟨hx158_0, hx158_1, hx158_2, hx158_3, hx159_0, hx159_1, hx159_2, hx159_3⟩ (fun hHeld => ?_); refine with_tabW walkmilllaw04_TurnEnough.tab15 walkmilllaw04_TurnEnough.bits15 (fun HT_ HW_ => ?_)
                generalize w111.drew = w112 at HO_11 HO_110000 HO_110001 HO134 HO137 HO143 HO146 HO152 HO155 BK101 BK102 BK109 BK156 HB GG72 hf72_0 hf72_1 hf72_2 hf72_3 hx157_0 hx157_1 hx157_2 hx157_3 hx158_0 hx158_1 hx158_2 hx158_3 hx159_0 hx159_1 hx159_2 hx159_3 hx72_0 hx72_1 hx72_2 hx72_3 hHeld ⊢
                refine pu 0 129 ?_
                refine pu 1 130 ?_
                refine pu 2 131 ?_
                refine pu 3 132 ?_
                refine pu 4 133 ?_
                refine pu 6 135 ?_
                refine pu 7 136 ?_
                refine pu 8 137 ?_
                refine pu 9 138 ?_
                refine tk 5 134 hHeld ?_
                refine tk 10 139 hHeld ?_
                refine on 11 (fun K hK => ?_)
                refine goes_ Tryz.func55 (by kernel_rfl) rfl #[.int .i64 ((rd_T67 t150 (ji69)).f2.f0), .int .i64 ((rd_T67 t150 (ji69)).f2.f0)] (by rfl) rfl rfl (by (try simp only [List.map_toArray, List.map_cons, List.map_nil]); first | done | (simp only [hji69]; rfl) | rfl | (simp only [List.length_drop, List.length_take]; rfl)) ?_
                with_reducible refine (walkmilllaw04_span.calls ((rd_T67 t150 (ji69)).f2.f0) ((rd_T67 t150 (ji69)).f2.f0) t160 t161 _ A73.out).mono ?_
                rintro e w113 ⟨rfl, hb⟩
                have HS0_ := (hb.cell (World.block_lt_of_cell? _ _ (hHeld.1))).trans (hHeld.1)
                have HS1_ := (hb.cell (World.block_lt_of_cell? _ _ (hHeld.2.1))).trans (hHeld.2.1)
                have HS2_ := (hb.cell (World.block_lt_of_cell? _ _ (hHeld.2.2.1))).trans (hHeld.2.2.1)
                have HS3_ := (hb.cell (World.block_lt_of_cell? _ _ (hHeld.2.2.2.1))).trans (hHeld.2.2.2.1)
                have HS4_ := (hb.cell (World.block_lt_of_cell? _ _ (hHeld.2.2.2.2.1))).trans (hHeld.2.2.2.2.1)
                have HS5_ := (hb.cell (World.block_lt_of_cell? _ _ (hHeld.2.2.2.2.2.1))).trans (hHeld.2.2.2.2.2.1)
                have HS6_ := (hb.cell (World.block_lt_of_cell? _ _ (hHeld.2.2.2.2.2.2.1))).trans (hHeld.2.2.2.2.2.2.1)
                have HS7_ := (hb.cell (World.block_lt_of_cell? _ _ (hHeld.2.2.2.2.2.2.2))).trans (hHeld.2.2.2.2.2.2.2)
                refine ⟨_, rfl, ?_⟩
                have GG72 := Aside0.mk ((hb.block _ (Array.getElem?_eq_some_iff.1 GG72.out).1).trans GG72.out)
                replace HO_11 := rb HO_11 hb
                replace HO_110000 := rb HO_110000 hb
                replace HO_110001 := rb HO_110001 hb
                replace HO134 := rb HO134 hb
                replace HO137 := rb HO137 hb
                replace HO143 := rb HO143 hb
                replace HO146 := rb HO146 hb
                replace HO152 := rb HO152 hb
                replace HO155 := rb HO155 hb
                replace BK101 := bb BK101 hb
                replace BK102 := bb BK102 hb
                replace BK109 := bb BK109 hb
                replace BK156 := bb BK156 hb
                replace HB := bs HB hb
                (try clear hb)
                (try clear hb2)
                (try clear hk)
                (try clear hi)
                obtain ⟨ce114, hcl114, hM114, hcc114, hfr114⟩ := Kd.R_elem HO152.out z67 ((ji69) : Int) (dT) (by have h_ : ((ji69) : Int) < ((t150.length : Int) : Int) := dT; first | exact h_ | (have e_ := (Kd.R_reads' HO152.out).1; omega) | simpa using h_)
                obtain rfl := k67_openM hM114
                have HP114 := (Kd.R_seg HO152.out ((ji69) : Int) (dT) (by have h_ : ((ji69) : Int) < ((t150.length : Int) : Int) := dT; first | exact h_ | (have e_ := (Kd.R_reads' HO152.out).1; omega) | simpa using h_) (seg := [.int .i64 t160, .int .i64 t161]) (j := 2) hcl114 hcc114 (show 4 ≤ 4 from by decide) (x' := (⟨(rd_T67 t150 (ji69)).f0, (rd_T67 t150 (ji69)).f1, (⟨t160, t161⟩ : S42)⟩ : S67)) (k67_mkM _ _ _ (⟨(rd_T67 t150 (ji69)).f0, (rd_T67 t150 (ji69)).f1, (⟨t160, t161⟩ : S42)⟩ : S67) ) (fun _ hk => hk)).1
                rw [← Ny162.out] at HP114
                have HQ114 := Aside0.mk HP114
                have hf114_2 : World.frozen? _ ⟨go72, ((ji69) : Int).toNat * 4 + 2, none⟩ = false := hfr114 2
                have hf114_3 : World.frozen? _ ⟨go72, ((ji69) : Int).toNat * 4 + 2 + 1, none⟩ = false := hfr114 3
                clear hcl114 hcc114 hfr114 hM114 HP114
                refine hK.out _ _ ⟨HS0_, HS1_, HS2_, HS3_, HS4_, HS5_, HS6_, HS7_⟩ (fun hHeld => ?_)
                clear hK K
                refine norm_ (a' := ?_) ?_ ?_
                rotate_left
                ·
                 show Act.put _ (some 140) _ = _
                 simp only [Act.put, List.setIfInBounds_toArray, List.set_cons_zero, List.set_cons_succ, i64_w, i32_w]
                 rfl
                refine pu 12 141 ?_
                refine pu 13 142 ?_
                refine last_ (i := 14) (N := none) #[true, true, true, true, true, true, true, true, true, true, true, true, true, true, true] rfl rfl (one_of HT_.out (by kernel_rfl)) (by decide) (fun K hK => ?_)
                refine skip_ (w1 := ?_) (by rfl) rfl ?_ ?_
                rotate_left
                ·
                 go_simp
                 rfl
                refine hK.out _ _ ?_
                clear hK K
                refine done_ (done_of HT_.out (by kernel_rfl)) ?_
                have n0_ : Aside0 (Kd.R (Kd.int .i64) 3 ((w113.setCell ⟨go72, ((ji69) : Int).toNat * 4 + 2, none⟩ (.int .i64 t160)).setCell ⟨go72, ((ji69) : Int).toNat * 4 + 3, none⟩ (.int .i64 t161)) w.heap.size (fun k_ => some k_ ≠ (.slice Ao20 t106.length co20 : Value).ownBlock ∧ some k_ ≠ (.slice Ao94 t135.length co94 : Value).ownBlock ∧ some k_ ≠ (.slice Ao99 t144.length co99 : Value).ownBlock ∧ some k_ ≠ (.slice Ao109 t153.length co109 : Value).ownBlock) (.slice Ao86 t124.length co86) t124) := ⟨by (with_reducible repeat (first | apply Kd.R_alloc | apply Kd.R_drewN | apply Kd.R_drew)); exact Kd.R_mono (Kd.R_far (p := ⟨go72, ((ji69) : Int).toNat * 4 + 3, none⟩) (Kd.R_far (p := ⟨go72, ((ji69) : Int).toNat * 4 + 2, none⟩) (Kd.R_types HO_11.out GG72.out (by decide)) (fun _ hk => hk.2) (.int .i64 t160)) (fun _ hk => hk.2) (.int .i64 t161)) (fun _ hk => ⟨hk.1.1, ⟨hk.1.2.1, ⟨hk.1.2.2.1, hk.1.2.2.2⟩⟩⟩)⟩
                have n1_ : Aside0 (Kd.R k67 67 ((w113.setCell ⟨go72, ((ji69) : Int).toNat * 4 + 2, none⟩ (.int .i64 t160)).setCell ⟨go72, ((ji69) : Int).toNat * 4 + 3, none⟩ (.int .i64 t161)) w.heap.size (fun k_ => some k_ ≠ (.slice Ao93 t132.length co93 : Value).ownBlock ∧ some k_ ≠ (.slice Ao98 t141.length co98 : Value).ownBlock ∧ some k_ ≠ (.slice (some ⟨go72, 0, none⟩) t150.length co104 : Value).ownBlock) (.slice Ao16 t103.length co16) t103) := ⟨by (with_reducible repeat (first | apply Kd.R_alloc | apply Kd.R_drewN | apply Kd.R_drew)); exact Kd.R_mono (Kd.R_far (p := ⟨go72, ((ji69) : Int).toNat * 4 + 3, none⟩) (Kd.R_far (p := ⟨go72, ((ji69) : Int).toNat * 4 + 2, none⟩) (Kd.R_mono HO_110000.out (fun k_ hk => (⟨hk, fun e_ => hk.2.2 (by rw [e_]; rfl)⟩ : _ ∧ k_ ≠ go72))) (fun _ hk => hk.2) (.int .i64 t160)) (fun _ hk => hk.2) (.int .i64 t161)) (fun _ hk => ⟨hk.1.1, ⟨hk.1.2.1, hk.1.2.2⟩⟩)⟩
                have n2_ : Aside0 (Kd.R (Kd.int .i64) 3 ((w113.setCell ⟨go72, ((ji69) : Int).toNat * 4 + 2, none⟩ (.int .i64 t160)).setCell ⟨go72, ((ji69) : Int).toNat * 4 + 3, none⟩ (.int .i64 t161)) w.heap.size (fun k_ => some k_ ≠ (.slice Ao86 t124.length co86 : Value).ownBlock ∧ some k_ ≠ (.slice Ao94 t135.length co94 : Value).ownBlock ∧ some k_ ≠ (.slice Ao99 t144.length co99 : Value).ownBlock ∧ some k_ ≠ (.slice Ao109 t153.length co109 : Value).ownBlock) (.slice Ao20 t106.length co20) t106) := ⟨by (with_reducible repeat (first | apply Kd.R_alloc | apply Kd.R_drewN | apply Kd.R_drew)); exact Kd.R_mono (Kd.R_far (p := ⟨go72, ((ji69) : Int).toNat * 4 + 3, none⟩) (Kd.R_far (p := ⟨go72, ((ji69) : Int).toNat * 4 + 2, none⟩) (Kd.R_types HO_110001.out GG72.out (by decide)) (fun _ hk => hk.2) (.int .i64 t160)) (fun _ hk => hk.2) (.int .i64 t161)) (fun _ hk => ⟨hk.1.1, ⟨hk.1.2.1, ⟨hk.1.2.2.1, hk.1.2.2.2⟩⟩⟩)⟩
                have n3_ : Aside0 (Kd.R k67 67 ((w113.setCell ⟨go72, ((ji69) : Int).toNat * 4 + 2, none⟩ (.int .i64 t160)).setCell ⟨go72, ((ji69) : Int).toNat * 4 + 3, none⟩ (.int .i64 t161)) w.heap.size (fun k_ => some k_ ≠ (.slice Ao16 t103.length co16 : Value).ownBlock ∧ some k_ ≠ (.slice Ao98 t141.length co98 : Value).ownBlock ∧ some k_ ≠ (.slice (some ⟨go72, 0, none⟩) t150.length co104 : Value).ownBlock) (.slice Ao93 t132.length co93) t132) := ⟨by (with_reducible repeat (first | apply Kd.R_alloc | apply Kd.R_drewN | apply Kd.R_drew)); exact Kd.R_mono (Kd.R_far (p := ⟨go72, ((ji69) : Int).toNat * 4 + 3, none⟩) (Kd.R_far (p := ⟨go72, ((ji69) : Int).toNat * 4 + 2, none⟩) (Kd.R_mono HO134.out (fun k_ hk => (⟨hk, fun e_ => hk.2.2 (by rw [e_]; rfl)⟩ : _ ∧ k_ ≠ go72))) (fun _ hk => hk.2) (.int .i64 t160)) (fun _ hk => hk.2) (.int .i64 t161)) (fun _ hk => ⟨hk.1.1, ⟨hk.1.2.1, hk.1.2.2⟩⟩)⟩
                have n4_ : Aside0 (Kd.R (Kd.int .i64) 3 ((w113.setCell ⟨go72, ((ji69) : Int).toNat * 4 + 2, none⟩ (.int .i64 t160)).setCell ⟨go72, ((ji69) : Int).toNat * 4 + 3, none⟩ (.int .i64 t161)) w.heap.size (fun k_ => some k_ ≠ (.slice Ao86 t124.length co86 : Value).ownBlock ∧ some k_ ≠ (.slice Ao20 t106.length co20 : Value).ownBlock ∧ some k_ ≠ (.slice Ao99 t144.length co99 : Value).ownBlock ∧ some k_ ≠ (.slice Ao109 t153.length co109 : Value).ownBlock) (.slice Ao94 t135.length co94) t135) := ⟨by (with_reducible repeat (first | apply Kd.R_alloc | apply Kd.R_drewN | apply Kd.R_drew)); exact Kd.R_mono (Kd.R_far (p := ⟨go72, ((ji69) : Int).toNat * 4 + 3, none⟩) (Kd.R_far (p := ⟨go72, ((ji69) : Int).toNat * 4 + 2, none⟩) (Kd.R_types HO137.out GG72.out (by decide)) (fun _ hk => hk.2) (.int .i64 t160)) (fun _ hk => hk.2) (.int .i64 t161)) (fun _ hk => ⟨hk.1.1, ⟨hk.1.2.1, ⟨hk.1.2.2.1, hk.1.2.2.2⟩⟩⟩)⟩
                have n5_ : Aside0 (Kd.R k67 67 ((w113.setCell ⟨go72, ((ji69) : Int).toNat * 4 + 2, none⟩ (.int .i64 t160)).setCell ⟨go72, ((ji69) : Int).toNat * 4 + 3, none⟩ (.int .i64 t161)) w.heap.size (fun k_ => some k_ ≠ (.slice Ao16 t103.length co16 : Value).ownBlock ∧ some k_ ≠ (.slice Ao93 t132.length co93 : Value).ownBlock ∧ some k_ ≠ (.slice (some ⟨go72, 0, none⟩) t150.length co104 : Value).ownBlock) (.slice Ao98 t141.length co98) t141) := ⟨by (with_reducible repeat (first | apply Kd.R_alloc | apply Kd.R_drewN | apply Kd.R_drew)); exact Kd.R_mono (Kd.R_far (p := ⟨go72, ((ji69) : Int).toNat * 4 + 3, none⟩) (Kd.R_far (p := ⟨go72, ((ji69) : Int).toNat * 4 + 2, none⟩) (Kd.R_mono HO143.out (fun k_ hk => (⟨hk, fun e_ => hk.2.2 (by rw [e_]; rfl)⟩ : _ ∧ k_ ≠ go72))) (fun _ hk => hk.2) (.int .i64 t160)) (fun _ hk => hk.2) (.int .i64 t161)) (fun _ hk => ⟨hk.1.1, ⟨hk.1.2.1, hk.1.2.2⟩⟩)⟩
                have n6_ : Aside0 (Kd.R (Kd.int .i64) 3 ((w113.setCell ⟨go72, ((ji69) : Int).toNat * 4 + 2, none⟩ (.int .i64 t160)).setCell ⟨go72, ((ji69) : Int).toNat * 4 + 3, none⟩ (.int .i64 t161)) w.heap.size (fun k_ => some k_ ≠ (.slice Ao86 t124.length co86 : Value).ownBlock ∧ some k_ ≠ (.slice Ao20 t106.length co20 : Value).ownBlock ∧ some k_ ≠ (.slice Ao94 t135.length co94 : Value).ownBlock ∧ some k_ ≠ (.slice Ao109 t153.length co109 : Value).ownBlock) (.slice Ao99 t144.length co99) t144) := ⟨by (with_reducible repeat (first | apply Kd.R_alloc | apply Kd.R_drewN | apply Kd.R_drew)); exact Kd.R_mono (Kd.R_far (p := ⟨go72, ((ji69) : Int).toNat * 4 + 3, none⟩) (Kd.R_far (p := ⟨go72, ((ji69) : Int).toNat * 4 + 2, none⟩) (Kd.R_types HO146.out GG72.out (by decide)) (fun _ hk => hk.2) (.int .i64 t160)) (fun _ hk => hk.2) (.int .i64 t161)) (fun _ hk => ⟨hk.1.1, ⟨hk.1.2.1, ⟨hk.1.2.2.1, hk.1.2.2.2⟩⟩⟩)⟩
                have n7_ : Aside0 (Kd.R k67 67 ((w113.setCell ⟨go72, ((ji69) : Int).toNat * 4 + 2, none⟩ (.int .i64 t160)).setCell ⟨go72, ((ji69) : Int).toNat * 4 + 3, none⟩ (.int .i64 t161)) w.heap.size (fun k_ => some k_ ≠ (.slice Ao16 t103.length co16 : Value).ownBlock ∧ some k_ ≠ (.slice Ao93 t132.length co93 : Value).ownBlock ∧ some k_ ≠ (.slice Ao98 t141.length co98 : Value).ownBlock) (.slice (some ⟨go72, 0, none⟩) t150.length co104) y162) := ⟨pR HQ114.out⟩
                have n8_ : Aside0 (Kd.R (Kd.int .i64) 3 ((w113.setCell ⟨go72, ((ji69) : Int).toNat * 4 + 2, none⟩ (.int .i64 t160)).setCell ⟨go72, ((ji69) : Int).toNat * 4 + 3, none⟩ (.int .i64 t161)) w.heap.size (fun k_ => some k_ ≠ (.slice Ao86 t124.length co86 : Value).ownBlock ∧ some k_ ≠ (.slice Ao20 t106.length co20 : Value).ownBlock ∧ some k_ ≠ (.slice Ao94 t135.length co94 : Value).ownBlock ∧ some k_ ≠ (.slice Ao99 t144.length co99 : Value).ownBlock) (.slice Ao109 t153.length co109) t153) := ⟨by (with_reducible repeat (first | apply Kd.R_alloc | apply Kd.R_drewN | apply Kd.R_drew)); exact Kd.R_mono (Kd.R_far (p := ⟨go72, ((ji69) : Int).toNat * 4 + 3, none⟩) (Kd.R_far (p := ⟨go72, ((ji69) : Int).toNat * 4 + 2, none⟩) (Kd.R_types HO155.out GG72.out (by decide)) (fun _ hk => hk.2) (.int .i64 t160)) (fun _ hk => hk.2) (.int .i64 t161)) (fun _ hk => ⟨hk.1.1, ⟨hk.1.2.1, ⟨hk.1.2.2.1, hk.1.2.2.2⟩⟩⟩)⟩
                have n9_ : Aside0 (((w113.setCell ⟨go72, ((ji69) : Int).toNat * 4 + 2, none⟩ (.int .i64 t160)).setCell ⟨go72, ((ji69) : Int).toNat * 4 + 3, none⟩ (.int .i64 t161)).heap[gb101]? = some (.cells #[.slice A0_0 l0_0.length c0_0, .int .u8 a0_1, .slice A0_2 l0_2.length c0_2] 76 (0, 0))) := ⟨by refine pB ?_; refine blk_far ?_ (by have h_ := Kd.R_ne HO152.out BK101.out (by decide); intro e_; exact h_ (by rw [e_]; rfl)) _; refine pB ?_; refine blk_far ?_ (by have h_ := Kd.R_ne HO152.out BK101.out (by decide); intro e_; exact h_ (by rw [e_]; rfl)) _; exact pB BK101.out⟩
                have n10_ : Aside0 (((w113.setCell ⟨go72, ((ji69) : Int).toNat * 4 + 2, none⟩ (.int .i64 t160)).setCell ⟨go72, ((ji69) : Int).toNat * 4 + 3, none⟩ (.int .i64 t161)).heap[gb102]? = some (.cells #[.int .u8 a2_0, .int .u8 a2_1] 84 (0, 0))) := ⟨by refine pB ?_; refine blk_far ?_ (by have h_ := Kd.R_ne HO152.out BK102.out (by decide); intro e_; exact h_ (by rw [e_]; rfl)) _; refine pB ?_; refine blk_far ?_ (by have h_ := Kd.R_ne HO152.out BK102.out (by decide); intro e_; exact h_ (by rw [e_]; rfl)) _; exact pB BK102.out⟩
                have n11_ : Aside0 (((w113.setCell ⟨go72, ((ji69) : Int).toNat * 4 + 2, none⟩ (.int .i64 t160)).setCell ⟨go72, ((ji69) : Int).toNat * 4 + 3, none⟩ (.int .i64 t161)).heap[gb109]? = some (.cells #[.slice Ao16 t103.length co16, .slice Ao20 t106.length co20] 25 (0, 0))) := ⟨by refine pB ?_; refine blk_far ?_ (by have h_ := Kd.R_ne HO152.out BK109.out (by decide); intro e_; exact h_ (by rw [e_]; rfl)) _; refine pB ?_; refine blk_far ?_ (by have h_ := Kd.R_ne HO152.out BK109.out (by decide); intro e_; exact h_ (by rw [e_]; rfl)) _; exact pB BK109.out⟩
                have n12_ : Aside0 (((w113.setCell ⟨go72, ((ji69) : Int).toNat * 4 + 2, none⟩ (.int .i64 t160)).setCell ⟨go72, ((ji69) : Int).toNat * 4 + 3, none⟩ (.int .i64 t161)).heap[gb156]? = some (.cells #[.slice (some ⟨go72, 0, none⟩) t150.length co104, .slice Ao109 t153.length co109] 25 (0, 0))) := ⟨by refine pB ?_; refine blk_far ?_ (by have h_ := Kd.R_ne HO152.out BK156.out (by decide); intro e_; exact h_ (by rw [e_]; rfl)) _; refine pB ?_; refine blk_far ?_ (by have h_ := Kd.R_ne HO152.out BK156.out (by decide); intro e_; exact h_ (by rw [e_]; rfl)) _; exact pB BK156.out⟩
                have n13_ : Aside0 (Below w.heap.size w ((w113.setCell ⟨go72, ((ji69) : Int).toNat * 4 + 2, none⟩ (.int .i64 t160)).setCell ⟨go72, ((ji69) : Int).toNat * 4 + 3, none⟩ (.int .i64 t161))) := ⟨pE HB⟩
                (try clear HO_11)
                (try clear HO_110000)
                (try clear HO_110001)
                (try clear HO134)
                (try clear HO137)
                (try clear HO143)
                (try clear HO146)
                (try clear HO152)
                (try clear HO155)
                (try clear BK101)
                (try clear BK102)
                (try clear BK109)
                (try clear BK156)
                (try clear HB)
                generalize ((w113.setCell ⟨go72, ((ji69) : Int).toNat * 4 + 2, none⟩ (.int .i64 t160)).setCell ⟨go72, ((ji69) : Int).toNat * 4 + 3, none⟩ (.int .i64 t161)) = w115 at n0_ n1_ n2_ n3_ n4_ n5_ n6_ n7_ n8_ n9_ n10_ n11_ n12_ n13_ ⊢
                have HO_11 := n0_
                have HO_110000 := n1_
                have HO_110001 := n2_
                have HO134 := n3_
                have HO137 := n4_
                have HO143 := n5_
                have HO146 := n6_
                have HO152 := n7_
                have HO155 := n8_
                have BK101 := n9_
                have BK102 := n10_
                have BK109 := n11_
                have BK156 := n12_
                have HB := n13_
                clear n0_ n1_ n2_ n3_ n4_ n5_ n6_ n7_ n8_ n9_ n10_ n11_ n12_ n13_
                obtain ⟨hcz116_0, hcz116_1, hfz116_0, hfz116_1⟩ := cf2 BK156
                try go_wp2_with (first | ((with_reducible refine gc 26 rfl ?_); refine goesL_ (some 146) rfl rfl Tryz.func26 (by kernel_rfl) rfl #[.agg #[.slice (some ⟨go72, 0, none⟩) y162.length co104, .slice Ao109 t153.length co109], .int .i64 (wrap64 (1 + (Int.tmod (wrap64 (a2_0)) 4)))] rfl (by (try simp only [List.map_toArray, List.map_cons, List.map_nil]); first | done | (rw [show y162.length = t150.length from (Kd.R_reads' HO152.out).1.symm] <;> rfl) | rfl | (simp only [List.length_drop, List.length_take]; rfl)) ?_; (with_reducible refine (turn_Waits.calls kj41 _ _ y162 _ _ t153 (wrap64 (1 + (Int.tmod (wrap64 (a2_0)) 4))) t163 t164 t165 _ ?side1 ?side2 ?side3 ?side4 A74.out).mono ?_); (case side1 => exact pC (Kd.R_reads' HO152.out).2.2); (case side2 => rw [show y162.length = t150.length from (Kd.R_reads' HO152.out).1.symm]; exact (Kd.R_reads' HO152.out).2.1); (case side3 => exact pC (Kd.R_reads' HO155.out).2.2); (case side4 => exact (Kd.R_reads' HO155.out).2.1); rintro e w117 ⟨rfl, hb⟩; refine ⟨_, rfl, ?_⟩; replace HO_11 := rb HO_11 hb; replace HO_110000 := rb HO_110000 hb; replace HO_110001 := rb HO_110001 hb; replace HO134 := rb HO134 hb; replace HO137 := rb HO137 hb; replace HO143 := rb HO143 hb; replace HO146 := rb HO146 hb; replace HO152 := rb HO152 hb; replace HO155 := rb HO155 hb; replace BK101 := bb BK101 hb; replace BK102 := bb BK102 hb; replace BK109 := bb BK109 hb; replace BK156 := bb BK156 hb; replace HB := bs HB hb; clear hb; have p166 : 0 ≤ ((ji75) : Int) := dT; have q166 : (ji75) < (t124.length : Int) := dT; obtain ⟨ad166, e166, hx166_0⟩ := Kd.at_int (Kd.R_reads' HO_11.out).2.2 (ji75) p166 q166; cases e166; replace p166 := eq_true p166; replace q166 := eq_true q166; obtain ⟨hcz118_0, hcz118_1, hfz118_0, hfz118_1⟩ := cf2 BK109) | ((with_reducible refine gc 49 rfl ?_); refine gL 157 Tryz.func49 #[.agg #[.slice Ao16 t103.length co16, .slice Ao20 t106.length co20]] ?_; (with_reducible refine (walkmilllaw04_own.calls _ _ t103 _ _ t106 t167 t170 _ ?side1 ?side2 ?side3 ?side4 A78.out).mono ?_); (case side1 => exact pC (Kd.R_reads' HO_110000.out).2.2); (case side2 => exact (Kd.R_reads' HO_110000.out).2.1); (case side3 => exact pC (Kd.R_reads' HO_110001.out).2.2); (case side4 => exact (Kd.R_reads' HO_110001.out).2.1); rintro e w119 ⟨v168, v171, rfl, ho0, ho1, hb⟩; refine ⟨_, rfl, ?_⟩; have HO169 := Aside0.mk (Kd.R_lower (Kd.R_new' (Kd.R_new' (Kd.R_new' (Kd.R_new' ho0 (Kd.R_lt (pR HO_110000.out))) (Kd.R_lt (pR HO134.out))) (Kd.R_lt (pR HO143.out))) (Kd.R_lt (pR HO152.out))) (below_size (pE HB))); replace HO_110000 := re HO_110000 ho0 hb; replace HO134 := re HO134 ho0 hb; replace HO143 := re HO143 ho0 hb; replace HO152 := re HO152 ho0 hb; have HO172 := Aside0.mk (Kd.R_lower (Kd.R_new' (Kd.R_new' (Kd.R_new' (Kd.R_new' (Kd.R_new' ho1 (Kd.R_lt (pR HO_11.out))) (Kd.R_lt (pR HO_110001.out))) (Kd.R_lt (pR HO137.out))) (Kd.R_lt (pR HO146.out))) (Kd.R_lt (pR HO155.out))) (below_size (pE HB))); replace HO_11 := re HO_11 ho1 hb; replace HO_110001 := re HO_110001 ho1 hb; replace HO137 := re HO137 ho1 hb; replace HO146 := re HO146 ho1 hb; replace HO155 := re HO155 ho1 hb; replace BK101 := bb BK101 hb; replace BK102 := bb BK102 hb; replace BK109 := bb BK109 hb; replace BK156 := bb BK156 hb; replace HB := bs HB hb; clear hb ho0 ho1) | ((with_reducible refine gate_dst (N := 26) rfl ?_); (try (refine gate_guard (by rfl) ?_; dsimp only)); refine bx 26 #[.slice none 0 0, .slice none 0 0] 25 ?_; intro gb173 hg w120 hbox hb; replace HO_11 := rb HO_11 hb; replace HO_110000 := rb HO_110000 hb; replace HO_110001 := rb HO_110001 hb; replace HO134 := rb HO134 hb; replace HO137 := rb HO137 hb; replace HO143 := rb HO143 hb; replace HO146 := rb HO146 hb; replace HO152 := rb HO152 hb; replace HO155 := rb HO155 hb; replace HO169 := rb HO169 hb; replace HO172 := rb HO172 hb; have BK173 := hbox; have GW173 := gs HB hg; have GE173 := gs HB hg; replace HB := bs HB hb; have NB101_173 := nl BK101 hg; have NB173_101 := nr BK101 hg; replace BK101 := bb BK101 hb; have NB102_173 := nl BK102 hg; have NB173_102 := nr BK102 hg; replace BK102 := bb BK102 hb; have NB109_173 := nl BK109 hg; have NB173_109 := nr BK109 hg; replace BK109 := bb BK109 hb; have NB156_173 := nl BK156 hg; have NB173_156 := nr BK156 hg; replace BK156 := bb BK156 hb; clear hb hbox hg; obtain ⟨Ao121, co121, eo121⟩ := Kd.R_slice HO169.out; subst eo121; have hnb122 := NB173_101.out; have hnc122 := NB101_173.out; have hnb123 := NB173_102.out; have hnc123 := NB102_173.out; have hnb124 := NB173_109.out; have hnc124 := NB109_173.out; have hnb125 := NB173_156.out; have hnc125 := NB156_173.out; obtain ⟨hcz126_0, hcz126_1, hfz126_0, hfz126_1⟩ := cf2 BK173; obtain ⟨Ao127, co127, eo127⟩ := Kd.R_slice HO172.out; subst eo127))
                have n0_ : Aside0 (Kd.R (Kd.int .i64) 3 ((w120.setCell ⟨gb173, 0, none⟩ (.slice Ao121 t167.length co121)).setCell ⟨gb173, 1, none⟩ (.slice Ao127 t170.length co127)) w.heap.size (fun k_ => some k_ ≠ (.slice Ao20 t106.length co20 : Value).ownBlock ∧ some k_ ≠ (.slice Ao94 t135.length co94 : Value).ownBlock ∧ some k_ ≠ (.slice Ao99 t144.length co99 : Value).ownBlock ∧ some k_ ≠ (.slice Ao109 t153.length co109 : Value).ownBlock ∧ some k_ ≠ (.slice Ao127 t170.length co127 : Value).ownBlock) (.slice (some ad166) t124.length co86) t124) := ⟨by (with_reducible repeat (first | apply Kd.R_alloc | apply Kd.R_drewN | apply Kd.R_drew)); exact Kd.R_mono (Kd.R_far (p := ⟨gb173, 1, none⟩) (Kd.R_far (p := ⟨gb173, 0, none⟩) (Kd.R_types HO_11.out BK173.out (by decide)) (fun _ hk => hk.2) (.slice Ao121 t167.length co121)) (fun _ hk => hk.2) (.slice Ao127 t170.length co127)) (fun _ hk => ⟨hk.1.1.1, ⟨hk.1.1.2.1, ⟨hk.1.1.2.2.1, ⟨hk.1.1.2.2.2, hk.1.2⟩⟩⟩⟩)⟩
                have n1_ : Aside0 (Kd.R k67 67 ((w120.setCell ⟨gb173, 0, none⟩ (.slice Ao121 t167.length co121)).setCell ⟨gb173, 1, none⟩ (.slice Ao127 t170.length co127)) w.heap.size (fun k_ => some k_ ≠ (.slice Ao93 t132.length co93 : Value).ownBlock ∧ some k_ ≠ (.slice Ao98 t141.length co98 : Value).ownBlock ∧ some k_ ≠ (.slice (some ⟨go72, 0, none⟩) t150.length co104 : Value).ownBlock ∧ some k_ ≠ (.slice Ao121 t167.length co121 : Value).ownBlock) (.slice Ao16 t103.length co16) t103) := ⟨by (with_reducible repeat (first | apply Kd.R_alloc | apply Kd.R_drewN | apply Kd.R_drew)); exact Kd.R_mono (Kd.R_far (p := ⟨gb173, 1, none⟩) (Kd.R_far (p := ⟨gb173, 0, none⟩) (Kd.R_types HO_110000.out BK173.out (by decide)) (fun _ hk => hk.2) (.slice Ao121 t167.length co121)) (fun _ hk => hk.2) (.slice Ao127 t170.length co127)) (fun _ hk => ⟨hk.1.1.1, ⟨hk.1.1.2.1, ⟨hk.1.1.2.2, hk.1.2⟩⟩⟩)⟩
                have n2_ : Aside0 (Kd.R (Kd.int .i64) 3 ((w120.setCell ⟨gb173, 0, none⟩ (.slice Ao121 t167.length co121)).setCell ⟨gb173, 1, none⟩ (.slice Ao127 t170.length co127)) w.heap.size (fun k_ => some k_ ≠ (.slice (some ad166) t124.length co86 : Value).ownBlock ∧ some k_ ≠ (.slice Ao94 t135.length co94 : Value).ownBlock ∧ some k_ ≠ (.slice Ao99 t144.length co99 : Value).ownBlock ∧ some k_ ≠ (.slice Ao109 t153.length co109 : Value).ownBlock ∧ some k_ ≠ (.slice Ao127 t170.length co127 : Value).ownBlock) (.slice Ao20 t106.length co20) t106) := ⟨by (with_reducible repeat (first | apply Kd.R_alloc | apply Kd.R_drewN | apply Kd.R_drew)); exact Kd.R_mono (Kd.R_far (p := ⟨gb173, 1, none⟩) (Kd.R_far (p := ⟨gb173, 0, none⟩) (Kd.R_types HO_110001.out BK173.out (by decide)) (fun _ hk => hk.2) (.slice Ao121 t167.length co121)) (fun _ hk => hk.2) (.slice Ao127 t170.length co127)) (fun _ hk => ⟨hk.1.1.1, ⟨hk.1.1.2.1, ⟨hk.1.1.2.2.1, ⟨hk.1.1.2.2.2, hk.1.2⟩⟩⟩⟩)⟩
                have n3_ : Aside0 (Kd.R k67 67 ((w120.setCell ⟨gb173, 0, none⟩ (.slice Ao121 t167.length co121)).setCell ⟨gb173, 1, none⟩ (.slice Ao127 t170.length co127)) w.heap.size (fun k_ => some k_ ≠ (.slice Ao16 t103.length co16 : Value).ownBlock ∧ some k_ ≠ (.slice Ao98 t141.length co98 : Value).ownBlock ∧ some k_ ≠ (.slice (some ⟨go72, 0, none⟩) t150.length co104 : Value).ownBlock ∧ some k_ ≠ (.slice Ao121 t167.length co121 : Value).ownBlock) (.slice Ao93 t132.length co93) t132) := ⟨by (with_reducible repeat (first | apply Kd.R_alloc | apply Kd.R_drewN | apply Kd.R_drew)); exact Kd.R_mono (Kd.R_far (p := ⟨gb173, 1, none⟩) (Kd.R_far (p := ⟨gb173, 0, none⟩) (Kd.R_types HO134.out BK173.out (by decide)) (fun _ hk => hk.2) (.slice Ao121 t167.length co121)) (fun _ hk => hk.2) (.slice Ao127 t170.length co127)) (fun _ hk => ⟨hk.1.1.1, ⟨hk.1.1.2.1, ⟨hk.1.1.2.2, hk.1.2⟩⟩⟩)⟩
                have n4_ : Aside0 (Kd.R (Kd.int .i64) 3 ((w120.setCell ⟨gb173, 0, none⟩ (.slice Ao121 t167.length co121)).setCell ⟨gb173, 1, none⟩ (.slice Ao127 t170.length co127)) w.heap.size (fun k_ => some k_ ≠ (.slice (some ad166) t124.length co86 : Value).ownBlock ∧ some k_ ≠ (.slice Ao20 t106.length co20 : Value).ownBlock ∧ some k_ ≠ (.slice Ao99 t144.length co99 : Value).ownBlock ∧ some k_ ≠ (.slice Ao109 t153.length co109 : Value).ownBlock ∧ some k_ ≠ (.slice Ao127 t170.length co127 : Value).ownBlock) (.slice Ao94 t135.length co94) t135) := ⟨by (with_reducible repeat (first | apply Kd.R_alloc | apply Kd.R_drewN | apply Kd.R_drew)); exact Kd.R_mono (Kd.R_far (p := ⟨gb173, 1, none⟩) (Kd.R_far (p := ⟨gb173, 0, none⟩) (Kd.R_types HO137.out BK173.out (by decide)) (fun _ hk => hk.2) (.slice Ao121 t167.length co121)) (fun _ hk => hk.2) (.slice Ao127 t170.length co127)) (fun _ hk => ⟨hk.1.1.1, ⟨hk.1.1.2.1, ⟨hk.1.1.2.2.1, ⟨hk.1.1.2.2.2, hk.1.2⟩⟩⟩⟩)⟩
                have n5_ : Aside0 (Kd.R k67 67 ((w120.setCell ⟨gb173, 0, none⟩ (.slice Ao121 t167.length co121)).setCell ⟨gb173, 1, none⟩ (.slice Ao127 t170.length co127)) w.heap.size (fun k_ => some k_ ≠ (.slice Ao16 t103.length co16 : Value).ownBlock ∧ some k_ ≠ (.slice Ao93 t132.length co93 : Value).ownBlock ∧ some k_ ≠ (.slice (some ⟨go72, 0, none⟩) t150.length co104 : Value).ownBlock ∧ some k_ ≠ (.slice Ao121 t167.length co121 : Value).ownBlock) (.slice Ao98 t141.length co98) t141) := ⟨by (with_reducible repeat (first | apply Kd.R_alloc | apply Kd.R_drewN | apply Kd.R_drew)); exact Kd.R_mono (Kd.R_far (p := ⟨gb173, 1, none⟩) (Kd.R_far (p := ⟨gb173, 0, none⟩) (Kd.R_types HO143.out BK173.out (by decide)) (fun _ hk => hk.2) (.slice Ao121 t167.length co121)) (fun _ hk => hk.2) (.slice Ao127 t170.length co127)) (fun _ hk => ⟨hk.1.1.1, ⟨hk.1.1.2.1, ⟨hk.1.1.2.2, hk.1.2⟩⟩⟩)⟩
                have n6_ : Aside0 (Kd.R (Kd.int .i64) 3 ((w120.setCell ⟨gb173, 0, none⟩ (.slice Ao121 t167.length co121)).setCell ⟨gb173, 1, none⟩ (.slice Ao127 t170.length co127)) w.heap.size (fun k_ => some k_ ≠ (.slice (some ad166) t124.length co86 : Value).ownBlock ∧ some k_ ≠ (.slice Ao20 t106.length co20 : Value).ownBlock ∧ some k_ ≠ (.slice Ao94 t135.length co94 : Value).ownBlock ∧ some k_ ≠ (.slice Ao109 t153.length co109 : Value).ownBlock ∧ some k_ ≠ (.slice Ao127 t170.length co127 : Value).ownBlock) (.slice Ao99 t144.length co99) t144) := ⟨by (with_reducible repeat (first | apply Kd.R_alloc | apply Kd.R_drewN | apply Kd.R_drew)); exact Kd.R_mono (Kd.R_far (p := ⟨gb173, 1, none⟩) (Kd.R_far (p := ⟨gb173, 0, none⟩) (Kd.R_types HO146.out BK173.out (by decide)) (fun _ hk => hk.2) (.slice Ao121 t167.length co121)) (fun _ hk => hk.2) (.slice Ao127 t170.length co127)) (fun _ hk => ⟨hk.1.1.1, ⟨hk.1.1.2.1, ⟨hk.1.1.2.2.1, ⟨hk.1.1.2.2.2, hk.1.2⟩⟩⟩⟩)⟩
                have n7_ : Aside0 (Kd.R k67 67 ((w120.setCell ⟨gb173, 0, none⟩ (.slice Ao121 t167.length co121)).setCell ⟨gb173, 1, none⟩ (.slice Ao127 t170.length co127)) w.heap.size (fun k_ => some k_ ≠ (.slice Ao16 t103.length co16 : Value).ownBlock ∧ some k_ ≠ (.slice Ao93 t132.length co93 : Value).ownBlock ∧ some k_ ≠ (.slice Ao98 t141.length co98 : Value).ownBlock ∧ some k_ ≠ (.slice Ao121 t167.length co121 : Value).ownBlock) (.slice (some ⟨go72, 0, none⟩) t150.length co104) y162) := ⟨by (with_reducible repeat (first | apply Kd.R_alloc | apply Kd.R_drewN | apply Kd.R_drew)); exact Kd.R_mono (Kd.R_far (p := ⟨gb173, 1, none⟩) (Kd.R_far (p := ⟨gb173, 0, none⟩) (Kd.R_types HO152.out BK173.out (by decide)) (fun _ hk => hk.2) (.slice Ao121 t167.length co121)) (fun _ hk => hk.2) (.slice Ao127 t170.length co127)) (fun _ hk => ⟨hk.1.1.1, ⟨hk.1.1.2.1, ⟨hk.1.1.2.2, hk.1.2⟩⟩⟩)⟩
                have n8_ : Aside0 (Kd.R (Kd.int .i64) 3 ((w120.setCell ⟨gb173, 0, none⟩ (.slice Ao121 t167.length co121)).setCell ⟨gb173, 1, none⟩ (.slice Ao127 t170.length co127)) w.heap.size (fun k_ => some k_ ≠ (.slice (some ad166) t124.length co86 : Value).ownBlock ∧ some k_ ≠ (.slice Ao20 t106.length co20 : Value).ownBlock ∧ some k_ ≠ (.slice Ao94 t135.length co94 : Value).ownBlock ∧ some k_ ≠ (.slice Ao99 t144.length co99 : Value).ownBlock ∧ some k_ ≠ (.slice Ao127 t170.length co127 : Value).ownBlock) (.slice Ao109 t153.length co109) t153) := ⟨by (with_reducible repeat (first | apply Kd.R_alloc | apply Kd.R_drewN | apply Kd.R_drew)); exact Kd.R_mono (Kd.R_far (p := ⟨gb173, 1, none⟩) (Kd.R_far (p := ⟨gb173, 0, none⟩) (Kd.R_types HO155.out BK173.out (by decide)) (fun _ hk => hk.2) (.slice Ao121 t167.length co121)) (fun _ hk => hk.2) (.slice Ao127 t170.length co127)) (fun _ hk => ⟨hk.1.1.1, ⟨hk.1.1.2.1, ⟨hk.1.1.2.2.1, ⟨hk.1.1.2.2.2, hk.1.2⟩⟩⟩⟩)⟩
                have n9_ : Aside0 (Kd.R k67 67 ((w120.setCell ⟨gb173, 0, none⟩ (.slice Ao121 t167.length co121)).setCell ⟨gb173, 1, none⟩ (.slice Ao127 t170.length co127)) w.heap.size (fun k_ => some k_ ≠ (.slice Ao16 t103.length co16 : Value).ownBlock ∧ some k_ ≠ (.slice Ao93 t132.length co93 : Value).ownBlock ∧ some k_ ≠ (.slice Ao98 t141.length co98 : Value).ownBlock ∧ some k_ ≠ (.slice (some ⟨go72, 0, none⟩) t150.length co104 : Value).ownBlock) (.slice Ao121 t167.length co121) t167) := ⟨by (with_reducible repeat (first | apply Kd.R_alloc | apply Kd.R_drewN | apply Kd.R_drew)); exact Kd.R_mono (Kd.R_far (p := ⟨gb173, 1, none⟩) (Kd.R_far (p := ⟨gb173, 0, none⟩) (Kd.R_types HO169.out BK173.out (by decide)) (fun _ hk => hk.2) (.slice Ao121 t167.length co121)) (fun _ hk => hk.2) (.slice Ao127 t170.length co127)) (fun _ hk => ⟨hk.1.1.1.1.2, ⟨hk.1.1.1.2, ⟨hk.1.1.2, hk.1.2⟩⟩⟩)⟩
                have n10_ : Aside0 (Kd.R (Kd.int .i64) 3 ((w120.setCell ⟨gb173, 0, none⟩ (.slice Ao121 t167.length co121)).setCell ⟨gb173, 1, none⟩ (.slice Ao127 t170.length co127)) w.heap.size (fun k_ => some k_ ≠ (.slice (some ad166) t124.length co86 : Value).ownBlock ∧ some k_ ≠ (.slice Ao20 t106.length co20 : Value).ownBlock ∧ some k_ ≠ (.slice Ao94 t135.length co94 : Value).ownBlock ∧ some k_ ≠ (.slice Ao99 t144.length co99 : Value).ownBlock ∧ some k_ ≠ (.slice Ao109 t153.length co109 : Value).ownBlock) (.slice Ao127 t170.length co127) t170) := ⟨by (with_reducible repeat (first | apply Kd.R_alloc | apply Kd.R_drewN | apply Kd.R_drew)); exact Kd.R_mono (Kd.R_far (p := ⟨gb173, 1, none⟩) (Kd.R_far (p := ⟨gb173, 0, none⟩) (Kd.R_types HO172.out BK173.out (by decide)) (fun _ hk => hk.2) (.slice Ao121 t167.length co121)) (fun _ hk => hk.2) (.slice Ao127 t170.length co127)) (fun _ hk => ⟨hk.1.1.1.1.1.2, ⟨hk.1.1.1.1.2, ⟨hk.1.1.1.2, ⟨hk.1.1.2, hk.1.2⟩⟩⟩⟩)⟩
                have n11_ : Aside0 (((w120.setCell ⟨gb173, 0, none⟩ (.slice Ao121 t167.length co121)).setCell ⟨gb173, 1, none⟩ (.slice Ao127 t170.length co127)).heap[gb101]? = some (.cells #[.slice A0_0 l0_0.length c0_0, .int .u8 a0_1, .slice A0_2 l0_2.length c0_2] 76 (0, 0))) := ⟨pF BK101⟩
                have n12_ : Aside0 (((w120.setCell ⟨gb173, 0, none⟩ (.slice Ao121 t167.length co121)).setCell ⟨gb173, 1, none⟩ (.slice Ao127 t170.length co127)).heap[gb102]? = some (.cells #[.int .u8 a2_0, .int .u8 a2_1] 84 (0, 0))) := ⟨pF BK102⟩
                have n13_ : Aside0 (((w120.setCell ⟨gb173, 0, none⟩ (.slice Ao121 t167.length co121)).setCell ⟨gb173, 1, none⟩ (.slice Ao127 t170.length co127)).heap[gb109]? = some (.cells #[.slice Ao16 t103.length co16, .slice Ao20 t106.length co20] 25 (0, 0))) := ⟨pF BK109⟩
                have n14_ : Aside0 (((w120.setCell ⟨gb173, 0, none⟩ (.slice Ao121 t167.length co121)).setCell ⟨gb173, 1, none⟩ (.slice Ao127 t170.length co127)).heap[gb156]? = some (.cells #[.slice (some ⟨go72, 0, none⟩) t150.length co104, .slice Ao109 t153.length co109] 25 (0, 0))) := ⟨pF BK156⟩
                have n15_ : Aside0 (((w120.setCell ⟨gb173, 0, none⟩ (.slice Ao121 t167.length co121)).setCell ⟨gb173, 1, none⟩ (.slice Ao127 t170.length co127)).heap[gb173]? = some (.cells #[.slice Ao121 t167.length co121, .slice Ao127 t170.length co127] 25 (0, 0))) := ⟨by refine pB ?_; refine blk_put (cs := #[.slice Ao121 t167.length co121, .slice none 0 0]) ?_ 1 _ rfl; refine pB ?_; refine blk_put (cs := #[.slice none 0 0, .slice none 0 0]) ?_ 0 _ rfl; exact pB BK173.out⟩
                have n16_ : Aside0 (Below w.heap.size w ((w120.setCell ⟨gb173, 0, none⟩ (.slice Ao121 t167.length co121)).setCell ⟨gb173, 1, none⟩ (.slice Ao127 t170.length co127))) := ⟨pE HB⟩
                (try clear HO_11)
                (try clear HO_110000)
                (try clear HO_110001)
                (try clear HO134)
                (try clear HO137)
                (try clear HO143)
                (try clear HO146)
                (try clear HO152)
                (try clear HO155)
                (try clear HO169)
                (try clear HO172)
                (try clear BK101)
                (try clear BK102)
                (try clear BK109)
                (try clear BK156)
                (try clear BK173)
                (try clear HB)
                generalize ((w120.setCell ⟨gb173, 0, none⟩ (.slice Ao121 t167.length co121)).setCell ⟨gb173, 1, none⟩ (.slice Ao127 t170.length co127)) = w128 at n0_ n1_ n2_ n3_ n4_ n5_ n6_ n7_ n8_ n9_ n10_ n11_ n12_ n13_ n14_ n15_ n16_ ⊢
                have HO_11 := n0_
                have HO_110000 := n1_
                have HO_110001 := n2_
                have HO134 := n3_
                have HO137 := n4_
                have HO143 := n5_
                have HO146 := n6_
                have HO152 := n7_
                have HO155 := n8_
                have HO169 := n9_
                have HO172 := n10_
                have BK101 := n11_
                have BK102 := n12_
                have BK109 := n13_
                have BK156 := n14_
                have BK173 := n15_
                have HB := n16_
                clear n0_ n1_ n2_ n3_ n4_ n5_ n6_ n7_ n8_ n9_ n10_ n11_ n12_ n13_ n14_ n15_ n16_
                replace HO_11 := Aside0.mk (Kd.R_drew HO_11.out)
                replace HO_110000 := Aside0.mk (Kd.R_drew HO_110000.out)
                replace HO_110001 := Aside0.mk (Kd.R_drew HO_110001.out)
                replace HO134 := Aside0.mk (Kd.R_drew HO134.out)
                replace HO137 := Aside0.mk (Kd.R_drew HO137.out)
                replace HO143 := Aside0.mk (Kd.R_drew HO143.out)
                replace HO146 := Aside0.mk (Kd.R_drew HO146.out)
                replace HO152 := Aside0.mk (Kd.R_drew HO152.out)
                replace HO155 := Aside0.mk (Kd.R_drew HO155.out)
                replace HO169 := Aside0.mk (Kd.R_drew HO169.out)
                replace HO172 := Aside0.mk (Kd.R_drew HO172.out)
                replace BK101 := Aside0.mk (blk_drew BK101.out)
                replace BK102 := Aside0.mk (blk_drew BK102.out)
                replace BK109 := Aside0.mk (blk_drew BK109.out)
                replace BK156 := Aside0.mk (blk_drew BK156.out)
                replace BK173 := Aside0.mk (blk_drew BK173.out)
                replace HB := Aside0.mk (below_drew1 HB.out)
                have q130 : ((rd t124 (ji75)) : Int) ≤ ((t167.length : Int) : Int) := dT
                obtain ⟨i0130, hi0130, _, hsz130, _⟩ := info_parts info67
                have hroom130 : t167.length ≤ co121 := (Kd.R_reads' HO169.out).2.1
                have hC130 : Kd.C k67 _ Ao121 t167.length t167 := (Kd.R_reads' HO169.out).2.2
                have hcut130 := cut_to (P := Tryz.prog) 22 67 .i64 Tryz.underlying22 hi0130 Ao121 t167.length co121 (rd t124 (ji75)) (dT) q130 hroom130
                have hr130 := Kd.C_take (m := ((rd t124 (ji75)) : Int).toNat) hC130 (by omega)
                have hy130 : y174.length = ((rd t124 (ji75)) : Int).toNat := (by rw [Ny174.out, List.length_take]; omega)
                rw [← Ny174.out] at hr130
                rw [← hy130] at hcut130
                have HR177 := Aside0.mk hr130
                have HC177 := Aside0.mk (show y174.length ≤ co121 from by omega)
                clear hr130 hC130 hroom130 hi0130 hsz130
                have KY130 := Aside0.mk hy130
                clear hy130
                have KL130 := Aside0.mk (show ((rd t124 (ji75)) : Int).toNat ≤ t167.length from by omega)
                replace q130 := eq_true q130
                have q131 : ((ji81) : Int) ≤ ((t167.length : Int) : Int) := dT
                obtain ⟨i0131, hi0131, _, hsz131, _⟩ := info_parts info67
                have hroom131 : t167.length ≤ co121 := (Kd.R_reads' HO169.out).2.1
                have hC131 : Kd.C k67 _ Ao121 t167.length t167 := (Kd.R_reads' HO169.out).2.2
                have q0131 : (0 : Int) ≤ ((ji81) : Int) := dT
                have hcut131 := cut_from (P := Tryz.prog) 22 67 .i64 Tryz.underlying22 hi0131 4 hsz131 Ao121 t167.length co121 (ji81) q0131 q131
                have hr131 := Kd.C_drop (m := ((ji81) : Int).toNat) (c := co121) hC131 (by omega) hroom131
                obtain ⟨A131, hA131⟩ : ∃ A1, A1 = (if co121 = ((ji81) : Int).toNat then Ao121 else (Ao121 : Option Addr).map (·.add (((ji81) : Int).toNat * 4))) := ⟨_, rfl⟩
                obtain ⟨c131, hc131⟩ : ∃ c1, c1 = co121 - ((ji81) : Int).toNat := ⟨_, rfl⟩
                have hy131 : y178.length = t167.length - ((ji81) : Int).toNat := (by rw [Ny178.out, List.length_drop] <;> omega)
                rw [show (t167).drop ((ji81) : Int).toNat = y178 from Ny178.out.symm] at hr131
                replace hr131 : Kd.C k67 _ A131 y178.length y178 := (by rw [hA131]; exact hr131)
                rw [← hy131, ← hA131, ← hc131] at hcut131
                have HR181 := Aside0.mk hr131
                have HC181 := Aside0.mk (show y178.length ≤ c131 from by rw [hy131, hc131]; exact Nat.sub_le_sub_right hroom131 _)
                clear hr131 hC131 hroom131 hi0131 hsz131 hc131
                have KY131 := Aside0.mk hy131
                have KA131 := Aside0.mk hA131
                clear hy131 hA131
                have KL131 := Aside0.mk (show ((ji81) : Int).toNat ≤ t167.length from by omega)
                replace q131 := eq_true q131
                obtain ⟨go133, co133, eo133, gb133, gl133, cl133, HG133⟩ := Kd.R_form HO169.out (by have hj_ : 0 ≤ ((rd t124 (ji75)) : Int) := dT; have hl_ : (ji81 : Int) ≤ (t167.length : Int) := dT; have hh_ : ((rd t124 (ji75)) : Int) ≤ (t167.length : Int) := dT; rw [← hji81] at hl_; unfold wrap64 at hl_; omega)
                (first | cases eo133 | (injection eo133 with ea_ en_ ec_; (first | subst ea_ | (injection ea_ with ea_; subst ea_)); subst ec_; clear en_))
                have GB133 := Aside0.mk gb133
                have GG133 := Aside0.mk HG133
                clear gb133 gl133 HG133
                refine start_ (n := 12) (S := fun w' => w'.cell? ⟨gb173, 0, none⟩ = some (.slice (some ⟨go133, 0, none⟩) t167.length co121) ∧ w'.cell? ⟨gb173, 1, none⟩ = some (.slice Ao127 t170.length co127)) (ds := [11]) #[false, false, false, false, false, false, false, false, false, false, false, false] (by kernel_rfl) rfl rfl ⟨(blk_cell BK173.out 0).trans rfl, (blk_cell BK173.out 1).trans rfl⟩ (fun hHeld => ?_); refine with_tabW walkmilllaw04_TurnEnough.tab19 walkmilllaw04_TurnEnough.bits19 (fun HT_ HW_ => ?_)
                generalize w128.drew = w129 at HO_11 HO_110000 HO_110001 HO134 HO137 HO143 HO146 HO152 HO155 HO169 HO172 BK101 BK102 BK109 BK156 BK173 HB GG133 HR177 HR181 hHeld ⊢
                refine pu 0 158 ?_
                refine pu 2 160 ?_
                refine pu 4 162 ?_
                refine pu 6 164 ?_
                refine pu 7 165 ?_
                refine tk 1 159 hHeld ?_
                refine pu 3 161 ?_
                refine tk 5 163 hHeld ?_
                refine pu 8 166 ?_
                refine on 9 (fun K hK => ?_)
                have hj_ : 0 ≤ ((rd t124 (ji75)) : Int) := dT
                have hl_ : (ji81 : Int) ≤ (t167.length : Int) := dT
                have hh_ : ((rd t124 (ji75)) : Int) ≤ (t167.length : Int) := dT
                have hb_ := (Kd.R_reads' HO169.out).2.2.2.1
                have h0_ : (0 : Int) ≤ (ji81 : Int) := dT
                have hy1_ := KY130.out
                have hk_ : (ji81 : Int).toNat = y174.length + 1 := (by have hw_ : (ji81 : Int) = (rd t124 (ji75)) + 1 := (by have h00_ := h0_; rw [← hji81] at h00_ ⊢; unfold wrap64 at h00_ ⊢; omega); rw [hw_]; omega)
                refine Kd.R_delete_step k67 (w0 := w) w.heap.size (by rfl) (.tmp 161) (.tmp 166) 22 67 rfl Tryz.underlying22 (by kernel_rfl) (g := go133) (n := t167.length) (c := co121) (k := y174.length) rfl rfl ?hA ?hm (pR HO169.out) ?hk (pE HB) (below_size (pE HB)) ?_
                (case hA => have ha_ := KA131.out; rw [hk_] at ha_; exact ha_)
                (case hm => have ha_ := KY131.out; omega)
                (case hk => omega)
                intro w132 ho hb hg
                clear hj_ hl_ hh_ hb_ hk_ h0_
                rw [hy1_, ← Ny182.out] at ho
                clear hy1_
                have hn_ : t167.length - 1 = y182.length := (by have := (Kd.R_reads' ho).1; omega)
                rw [hn_] at ho ⊢
                clear hn_
                replace HO_11 := Aside0.mk (Kd.R_over' (v := (.slice (some ⟨go133, 0, none⟩) t167.length co121)) (pR HO_11.out) (Kd.R_typed HO169.out) (by decide) hg)
                replace HO_110000 := Aside0.mk (Kd.R_after (v := (.slice (some ⟨go133, 0, none⟩) t167.length co121)) (v1 := .slice (some ⟨go133, 0, none⟩) y182.length co121) (ok := (fun k_ => some k_ ≠ (.slice Ao93 t132.length co93 : Value).ownBlock ∧ some k_ ≠ (.slice Ao98 t141.length co98 : Value).ownBlock ∧ some k_ ≠ (.slice (some ⟨go72, 0, none⟩) t150.length co104 : Value).ownBlock)) (by refine pR ?_; exact Kd.R_mono HO_110000.out (fun _ hk => ⟨⟨hk.1, ⟨hk.2.1, hk.2.2.1⟩⟩, hk.2.2.2⟩)) hg (.inl rfl))
                replace HO_110001 := Aside0.mk (Kd.R_over' (v := (.slice (some ⟨go133, 0, none⟩) t167.length co121)) (pR HO_110001.out) (Kd.R_typed HO169.out) (by decide) hg)
                replace BK101 := Aside0.mk (blk_grown (g := gb101) (o := .cells #[.slice A0_0 l0_0.length c0_0, .int .u8 a0_1, .slice A0_2 l0_2.length c0_2] 76 (0, 0)) (pB BK101.out) hg (Kd.R_ne HO169.out BK101.out (by decide)))
                replace BK102 := Aside0.mk (blk_grown (g := gb102) (o := .cells #[.int .u8 a2_0, .int .u8 a2_1] 84 (0, 0)) (pB BK102.out) hg (Kd.R_ne HO169.out BK102.out (by decide)))
                replace BK109 := Aside0.mk (blk_grown (g := gb109) (o := .cells #[.slice Ao16 t103.length co16, .slice Ao20 t106.length co20] 25 (0, 0)) (pB BK109.out) hg (Kd.R_ne HO169.out BK109.out (by decide)))
                replace HO134 := Aside0.mk (Kd.R_after (v := (.slice (some ⟨go133, 0, none⟩) t167.length co121)) (v1 := .slice (some ⟨go133, 0, none⟩) y182.length co121) (ok := (fun k_ => some k_ ≠ (.slice Ao16 t103.length co16 : Value).ownBlock ∧ some k_ ≠ (.slice Ao98 t141.length co98 : Value).ownBlock ∧ some k_ ≠ (.slice (some ⟨go72, 0, none⟩) t150.length co104 : Value).ownBlock)) (by refine pR ?_; exact Kd.R_mono HO134.out (fun _ hk => ⟨⟨hk.1, ⟨hk.2.1, hk.2.2.1⟩⟩, hk.2.2.2⟩)) hg (.inl rfl))
                replace HO137 := Aside0.mk (Kd.R_over' (v := (.slice (some ⟨go133, 0, none⟩) t167.length co121)) (pR HO137.out) (Kd.R_typed HO169.out) (by decide) hg)
                replace HO143 := Aside0.mk (Kd.R_after (v := (.slice (some ⟨go133, 0, none⟩) t167.length co121)) (v1 := .slice (some ⟨go133, 0, none⟩) y182.length co121) (ok := (fun k_ => some k_ ≠ (.slice Ao16 t103.length co16 : Value).ownBlock ∧ some k_ ≠ (.slice Ao93 t132.length co93 : Value).ownBlock ∧ some k_ ≠ (.slice (some ⟨go72, 0, none⟩) t150.length co104 : Value).ownBlock)) (by refine pR ?_; exact Kd.R_mono HO143.out (fun _ hk => ⟨⟨hk.1, ⟨hk.2.1, hk.2.2.1⟩⟩, hk.2.2.2⟩)) hg (.inl rfl))
                replace HO146 := Aside0.mk (Kd.R_over' (v := (.slice (some ⟨go133, 0, none⟩) t167.length co121)) (pR HO146.out) (Kd.R_typed HO169.out) (by decide) hg)
                replace HO152 := Aside0.mk (Kd.R_after (v := (.slice (some ⟨go133, 0, none⟩) t167.length co121)) (v1 := .slice (some ⟨go133, 0, none⟩) y182.length co121) (ok := (fun k_ => some k_ ≠ (.slice Ao16 t103.length co16 : Value).ownBlock ∧ some k_ ≠ (.slice Ao93 t132.length co93 : Value).ownBlock ∧ some k_ ≠ (.slice Ao98 t141.length co98 : Value).ownBlock)) (by refine pR ?_; exact Kd.R_mono HO152.out (fun _ hk => ⟨⟨hk.1, ⟨hk.2.1, hk.2.2.1⟩⟩, hk.2.2.2⟩)) hg (.inl rfl))
                replace HO155 := Aside0.mk (Kd.R_over' (v := (.slice (some ⟨go133, 0, none⟩) t167.length co121)) (pR HO155.out) (Kd.R_typed HO169.out) (by decide) hg)
                replace BK156 := Aside0.mk (blk_grown (g := gb156) (o := .cells #[.slice (some ⟨go72, 0, none⟩) t150.length co104, .slice Ao109 t153.length co109] 25 (0, 0)) (pB BK156.out) hg (Kd.R_ne HO169.out BK156.out (by decide)))
                replace HO172 := Aside0.mk (Kd.R_over' (v := (.slice (some ⟨go133, 0, none⟩) t167.length co121)) (pR HO172.out) (Kd.R_typed HO169.out) (by decide) hg)
                replace BK173 := Aside0.mk (blk_grown (g := gb173) (o := .cells #[.slice (some ⟨go133, 0, none⟩) t167.length co121, .slice Ao127 t170.length co127] 25 (0, 0)) (pB BK173.out) hg (Kd.R_ne HO169.out BK173.out (by decide)))
                replace HO169 := Aside0.mk (ho)
                replace HB := Aside0.mk (hb)
                clear ho hb hg
                refine hK.out _ _ ⟨(blk_cell BK173.out 0).trans rfl, (blk_cell BK173.out 1).trans rfl⟩ (fun hHeld => ?_)
                clear hK K
                refine norm_ (a' := ?_) ?_ ?_
                rotate_left
                ·
                 show Act.put _ (some 167) _ = _
                 simp only [Act.put, List.setIfInBounds_toArray, List.set_cons_zero, List.set_cons_succ, i64_w, i32_w]
                 rfl
                refine pu 10 168 ?_
                refine last_ (i := 11) (N := none) #[true, true, true, true, true, true, true, true, true, true, true, true] rfl rfl (one_of HT_.out (by kernel_rfl)) (by decide) (fun K hK => ?_)
                have hs134 : w132.cell? ⟨gb173, 0, none⟩ = some (.slice (some ⟨go133, 0, none⟩) t167.length co121) := (blk_cell BK173.out 0).trans rfl
                have hfs134 := blk_frozen BK173.out 0
                have hns134_0 := NB101_173.out
                have hns134_1 := NB102_173.out
                have hns134_2 := NB109_173.out
                have hns134_3 := NB156_173.out
                have hms134_0 := NB173_101.out
                have hms134_1 := NB173_102.out
                have hms134_2 := NB173_109.out
                have hms134_3 := NB173_156.out
                refine skip_ (w1 := ?_) (by rfl) rfl ?_ ?_
                rotate_left
                ·
                 go_simp
                 rfl
                refine hK.out _ _ ?_
                clear hK K
                refine done_ (done_of HT_.out (by kernel_rfl)) ?_
                obtain ⟨hcz135_0, hcz135_1, hfz135_0, hfz135_1⟩ := cf2 BK173
                go_upto_region 21 with (first | ((with_reducible refine gc 26 rfl ?_); refine gL 172 Tryz.func26 #[.agg #[.slice (some ⟨go133, 0, none⟩) y182.length co121, .slice Ao127 t170.length co127], .int .i64 (wrap64 (1 + (Int.tmod (wrap64 (a2_0)) 4)))] ?_; (with_reducible refine (turn_Waits.calls kj41 _ _ y182 _ _ t170 (wrap64 (1 + (Int.tmod (wrap64 (a2_0)) 4))) t185 t186 t187 _ ?side1 ?side2 ?side3 ?side4 A84.out).mono ?_); (case side1 => refine (Kd.R_reads' (e := 67) (base := w.heap.size) (ok := fun k_ => (some k_ ≠ (.slice Ao16 t103.length co16 : Value).ownBlock ∧ (some k_ ≠ (.slice Ao93 t132.length co93 : Value).ownBlock ∧ (some k_ ≠ (.slice Ao98 t141.length co98 : Value).ownBlock ∧ some k_ ≠ (.slice (some ⟨go72, 0, none⟩) t150.length co104 : Value).ownBlock)))) (n := y182.length) (c := co121) ?_).2.2; exact (by refine pR ?_; exact (Kd.R_mono (Kd.R_far (p := ⟨gb173, 0, none⟩) (Kd.R_types HO169.out BK173.out (by decide)) (fun _ hk => hk.2) (.slice (some ⟨go133, 0, none⟩) y182.length co121)) (fun _ h_ => h_.1)))); (case side2 => exact (Kd.R_reads' HO169.out).2.1); (case side3 => refine (Kd.R_reads' (e := 3) (base := w.heap.size) (ok := fun k_ => (some k_ ≠ (.slice (some ad166) t124.length co86 : Value).ownBlock ∧ (some k_ ≠ (.slice Ao20 t106.length co20 : Value).ownBlock ∧ (some k_ ≠ (.slice Ao94 t135.length co94 : Value).ownBlock ∧ (some k_ ≠ (.slice Ao99 t144.length co99 : Value).ownBlock ∧ some k_ ≠ (.slice Ao109 t153.length co109 : Value).ownBlock))))) (n := t170.length) (c := co127) ?_).2.2; exact (by refine pR ?_; exact (Kd.R_mono (Kd.R_far (p := ⟨gb173, 0, none⟩) (Kd.R_types HO172.out BK173.out (by decide)) (fun _ hk => hk.2) (.slice (some ⟨go133, 0, none⟩) y182.length co121)) (fun _ h_ => h_.1)))); (case side4 => exact (Kd.R_reads' HO172.out).2.1); rintro e w136 ⟨rfl, hb⟩; refine ⟨_, rfl, ?_⟩; replace HO_11 := Aside0.mk (Kd.R_below (by refine pR ?_; exact (Kd.R_mono (Kd.R_far (p := ⟨gb173, 0, none⟩) (Kd.R_types HO_11.out BK173.out (by decide)) (fun _ hk => hk.2) (.slice (some ⟨go133, 0, none⟩) y182.length co121)) (fun _ h_ => h_.1))) hb); replace HO_110000 := Aside0.mk (Kd.R_below (by refine pR ?_; exact (Kd.R_mono (Kd.R_far (p := ⟨gb173, 0, none⟩) (Kd.R_types HO_110000.out BK173.out (by decide)) (fun _ hk => hk.2) (.slice (some ⟨go133, 0, none⟩) y182.length co121)) (fun _ h_ => h_.1))) hb); replace HO_110001 := Aside0.mk (Kd.R_below (by refine pR ?_; exact (Kd.R_mono (Kd.R_far (p := ⟨gb173, 0, none⟩) (Kd.R_types HO_110001.out BK173.out (by decide)) (fun _ hk => hk.2) (.slice (some ⟨go133, 0, none⟩) y182.length co121)) (fun _ h_ => h_.1))) hb); replace HO134 := Aside0.mk (Kd.R_below (by refine pR ?_; exact (Kd.R_mono (Kd.R_far (p := ⟨gb173, 0, none⟩) (Kd.R_types HO134.out BK173.out (by decide)) (fun _ hk => hk.2) (.slice (some ⟨go133, 0, none⟩) y182.length co121)) (fun _ h_ => h_.1))) hb); replace HO137 := Aside0.mk (Kd.R_below (by refine pR ?_; exact (Kd.R_mono (Kd.R_far (p := ⟨gb173, 0, none⟩) (Kd.R_types HO137.out BK173.out (by decide)) (fun _ hk => hk.2) (.slice (some ⟨go133, 0, none⟩) y182.length co121)) (fun _ h_ => h_.1))) hb); replace HO143 := Aside0.mk (Kd.R_below (by refine pR ?_; exact (Kd.R_mono (Kd.R_far (p := ⟨gb173, 0, none⟩) (Kd.R_types HO143.out BK173.out (by decide)) (fun _ hk => hk.2) (.slice (some ⟨go133, 0, none⟩) y182.length co121)) (fun _ h_ => h_.1))) hb); replace HO146 := Aside0.mk (Kd.R_below (by refine pR ?_; exact (Kd.R_mono (Kd.R_far (p := ⟨gb173, 0, none⟩) (Kd.R_types HO146.out BK173.out (by decide)) (fun _ hk => hk.2) (.slice (some ⟨go133, 0, none⟩) y182.length co121)) (fun _ h_ => h_.1))) hb); replace HO152 := Aside0.mk (Kd.R_below (by refine pR ?_; exact (Kd.R_mono (Kd.R_far (p := ⟨gb173, 0, none⟩) (Kd.R_types HO152.out BK173.out (by decide)) (fun _ hk => hk.2) (.slice (some ⟨go133, 0, none⟩) y182.length co121)) (fun _ h_ => h_.1))) hb); replace HO155 := Aside0.mk (Kd.R_below (by refine pR ?_; exact (Kd.R_mono (Kd.R_far (p := ⟨gb173, 0, none⟩) (Kd.R_types HO155.out BK173.out (by decide)) (fun _ hk => hk.2) (.slice (some ⟨go133, 0, none⟩) y182.length co121)) (fun _ h_ => h_.1))) hb); replace HO169 := Aside0.mk (Kd.R_below (by refine pR ?_; exact (Kd.R_mono (Kd.R_far (p := ⟨gb173, 0, none⟩) (Kd.R_types HO169.out BK173.out (by decide)) (fun _ hk => hk.2) (.slice (some ⟨go133, 0, none⟩) y182.length co121)) (fun _ h_ => h_.1))) hb); replace HO172 := Aside0.mk (Kd.R_below (by refine pR ?_; exact (Kd.R_mono (Kd.R_far (p := ⟨gb173, 0, none⟩) (Kd.R_types HO172.out BK173.out (by decide)) (fun _ hk => hk.2) (.slice (some ⟨go133, 0, none⟩) y182.length co121)) (fun _ h_ => h_.1))) hb); replace BK101 := bf BK101 hb; replace BK102 := bf BK102 hb; replace BK109 := bf BK109 hb; replace BK156 := bf BK156 hb; replace BK173 := Aside0.mk (blk_below (g := gb173) (o := .cells #[.slice (some ⟨go133, 0, none⟩) y182.length co121, .slice Ao127 t170.length co127] 25 (0, 0)) (by refine pB ?_; refine blk_put (cs := #[.slice (some ⟨go133, 0, none⟩) t167.length co121, .slice Ao127 t170.length co127]) ?_ 0 _ rfl; exact pB BK173.out) hb); replace HB := bs HB hb; clear hb))
                (try simp only [Act.put, List.setIfInBounds_toArray, List.set_cons_zero, List.set_cons_succ])
                go_cut [182] (fun v182 wc => ∃ (kq : Nat) (x182_84 : Bool), v182 = .bool x182_84 ∧ Aside0 (walkmilllaw04_TurnEnough.j2 kq t139 t140 t148 t149 t164 t165 t186 t187 x182_84 = some r) ∧ Aside0 (kq ≤ kj41) ∧ Aside0 (Kd.R k67 67 wc w.heap.size (fun k_ => some k_ ≠ ((.slice (some ⟨go72, 0, none⟩) t150.length co104) : Value).ownBlock ∧ some k_ ≠ ((.slice (some ⟨go133, 0, none⟩) y182.length co121) : Value).ownBlock) (.slice Ao16 t103.length co16) t103) ∧ Aside0 (Kd.R (Kd.int .i64) 3 wc w.heap.size (fun k_ => some k_ ≠ ((.slice Ao109 t153.length co109) : Value).ownBlock ∧ some k_ ≠ ((.slice Ao127 t170.length co127) : Value).ownBlock) (.slice Ao20 t106.length co20) t106) ∧ Aside0 (Kd.R k67 67 wc w.heap.size (fun k_ => some k_ ≠ ((.slice Ao16 t103.length co16) : Value).ownBlock ∧ some k_ ≠ ((.slice (some ⟨go133, 0, none⟩) y182.length co121) : Value).ownBlock) (.slice (some ⟨go72, 0, none⟩) t150.length co104) y162) ∧ Aside0 (Kd.R (Kd.int .i64) 3 wc w.heap.size (fun k_ => some k_ ≠ ((.slice Ao20 t106.length co20) : Value).ownBlock ∧ some k_ ≠ ((.slice Ao127 t170.length co127) : Value).ownBlock) (.slice Ao109 t153.length co109) t153) ∧ Aside0 (Kd.R k67 67 wc w.heap.size (fun k_ => some k_ ≠ ((.slice Ao16 t103.length co16) : Value).ownBlock ∧ some k_ ≠ ((.slice (some ⟨go72, 0, none⟩) t150.length co104) : Value).ownBlock) (.slice (some ⟨go133, 0, none⟩) y182.length co121) y182) ∧ Aside0 (Kd.R (Kd.int .i64) 3 wc w.heap.size (fun k_ => some k_ ≠ ((.slice Ao20 t106.length co20) : Value).ownBlock ∧ some k_ ≠ ((.slice Ao109 t153.length co109) : Value).ownBlock) (.slice Ao127 t170.length co127) t170) ∧ Aside0 (wc.heap[gb101]? = some (.cells #[(.slice A0_0 l0_0.length c0_0), .int .u8 a0_1, (.slice A0_2 l0_2.length c0_2)] 76 (0, 0))) ∧ Aside0 (wc.heap[gb102]? = some (.cells #[.int .u8 a2_0, .int .u8 a2_1] 84 (0, 0))) ∧ Aside0 (wc.heap[gb109]? = some (.cells #[(.slice Ao16 t103.length co16), (.slice Ao20 t106.length co20)] 25 (0, 0))) ∧ Aside0 (wc.heap[gb156]? = some (.cells #[(.slice (some ⟨go72, 0, none⟩) t150.length co104), (.slice Ao109 t153.length co109)] 25 (0, 0))) ∧ Aside0 (wc.heap[gb173]? = some (.cells #[(.slice (some ⟨go133, 0, none⟩) y182.length co121), (.slice Ao127 t170.length co127)] 25 (0, 0))) ∧ Aside0 (Below w.heap.size w wc))
                case first =>
                 have H := HC85.out
                 clear HC85
                 by_cases c137 : t187 = 7
                 ·
                  rw [if_pos c137] at H
                  have c137b0 : (t187 == 7) = true := beq_iff_eq.mpr c137
                  have c137b1 : (t187 != 7) = false := bne_eq_false_iff_eq.mpr c137
                  clear c137
                  (first | rw [c137b0] | (simp only [i64_w, i32_w]; rw [c137b0]) | skip)
                  have H' := Aside0.mk H
                  clear H
                  go_wp2
                  go_meet
                  case rel => exact ⟨_, (((t124.length : Int) == 1)), (by first | rfl | (simp; done) | (simp [*]; done)), H', ⟨by have := HJ8.out; have := HJ41.out; first | omega | exact Nat.le_refl _⟩, ⟨by (with_reducible repeat (first | apply Kd.R_alloc | apply Kd.R_drewN | apply Kd.R_drew)); exact Kd.R_mono HO_110000.out (fun _ hk => ⟨hk.1.2.2, hk.2⟩)⟩, ⟨by (with_reducible repeat (first | apply Kd.R_alloc | apply Kd.R_drewN | apply Kd.R_drew)); exact Kd.R_mono HO_110001.out (fun _ hk => ⟨hk.2.2.2.1, hk.2.2.2.2⟩)⟩, ⟨by (with_reducible repeat (first | apply Kd.R_alloc | apply Kd.R_drewN | apply Kd.R_drew)); exact Kd.R_mono HO152.out (fun _ hk => ⟨hk.1.1, hk.2⟩)⟩, ⟨by (with_reducible repeat (first | apply Kd.R_alloc | apply Kd.R_drewN | apply Kd.R_drew)); exact Kd.R_mono HO155.out (fun _ hk => ⟨hk.2.1, hk.2.2.2.2⟩)⟩, ⟨by (with_reducible repeat (first | apply Kd.R_alloc | apply Kd.R_drewN | apply Kd.R_drew)); exact Kd.R_mono HO169.out (fun _ hk => ⟨hk.1, hk.2.2.2⟩)⟩, ⟨by (with_reducible repeat (first | apply Kd.R_alloc | apply Kd.R_drewN | apply Kd.R_drew)); exact Kd.R_mono HO172.out (fun _ hk => ⟨hk.2.1, hk.2.2.2.2⟩)⟩, ⟨pB BK101.out⟩, ⟨pB BK102.out⟩, ⟨pB BK109.out⟩, ⟨pB BK156.out⟩, ⟨pB BK173.out⟩, ⟨pE HB⟩⟩
                 ·
                  rw [if_neg c137] at H
                  have c137b0 : (t187 == 7) = false := beq_eq_false_iff_ne.mpr c137
                  have c137b1 : (t187 != 7) = true := bne_iff_ne.mpr c137
                  (first | rw [c137b0] | (simp only [i64_w, i32_w]; rw [c137b0]) | skip)
                  have H' := Aside0.mk H
                  clear H
                  go_wp2
                  go_meet
                  case rel => exact ⟨_, (false), (by first | rfl | (simp; done) | (simp [*]; done)), H', ⟨by have := HJ8.out; have := HJ41.out; first | omega | exact Nat.le_refl _⟩, ⟨by (with_reducible repeat (first | apply Kd.R_alloc | apply Kd.R_drewN | apply Kd.R_drew)); exact Kd.R_mono HO_110000.out (fun _ hk => ⟨hk.1.2.2, hk.2⟩)⟩, ⟨by (with_reducible repeat (first | apply Kd.R_alloc | apply Kd.R_drewN | apply Kd.R_drew)); exact Kd.R_mono HO_110001.out (fun _ hk => ⟨hk.2.2.2.1, hk.2.2.2.2⟩)⟩, ⟨by (with_reducible repeat (first | apply Kd.R_alloc | apply Kd.R_drewN | apply Kd.R_drew)); exact Kd.R_mono HO152.out (fun _ hk => ⟨hk.1.1, hk.2⟩)⟩, ⟨by (with_reducible repeat (first | apply Kd.R_alloc | apply Kd.R_drewN | apply Kd.R_drew)); exact Kd.R_mono HO155.out (fun _ hk => ⟨hk.2.1, hk.2.2.2.2⟩)⟩, ⟨by (with_reducible repeat (first | apply Kd.R_alloc | apply Kd.R_drewN | apply Kd.R_drew)); exact Kd.R_mono HO169.out (fun _ hk => ⟨hk.1, hk.2.2.2⟩)⟩, ⟨by (with_reducible repeat (first | apply Kd.R_alloc | apply Kd.R_drewN | apply Kd.R_drew)); exact Kd.R_mono HO172.out (fun _ hk => ⟨hk.2.1, hk.2.2.2.2⟩)⟩, ⟨pB BK101.out⟩, ⟨pB BK102.out⟩, ⟨pB BK109.out⟩, ⟨pB BK156.out⟩, ⟨pB BK173.out⟩, ⟨pE HB⟩⟩
                case rest =>
                 clear HC85
                 try clear c1
                 try clear p1
                 try clear q1
                 try clear hx1
                 try clear c2
                 try clear p2
                 try clear c4
                 try clear c5
                 try clear p6
                 try clear hx7
                 try clear hf7
                 try clear c11
                 try clear c12
                 try clear c13
                 try clear q13
                 try clear p15
                 try clear q15
                 try clear hx15
                 try clear p16
                 try clear q16
                 try clear hx16
                 try clear c26
                 try clear c49
                 try clear c55
                 try clear p64
                 try clear hx72
                 try clear hf72
                 try clear c114
                 try clear c122
                 try clear c123
                 try clear c124
                 try clear c125
                 try clear q130
                 try clear c131
                 try clear q131
                 try clear c137
                 try clear c137b0
                 try clear c137b1
                 try clear hcz116_0
                 try clear hcz116_1
                 try clear hcz118_0
                 try clear hcz118_1
                 try clear hcz126_0
                 try clear hcz126_1
                 try clear hcz135_0
                 try clear hcz135_1
                 try clear hfz116_0
                 try clear hfz116_1
                 try clear hfz118_0
                 try clear hfz118_1
                 try clear hfz126_0
                 try clear hfz126_1
                 try clear hfz135_0
                 try clear hfz135_1
                 try clear hx157_0
                 try clear hx157_1
                 try clear hx157_2
                 try clear hx157_3
                 try clear hx158_0
                 try clear hx158_1
                 try clear hx158_2
                 try clear hx158_3
                 try clear hx159_0
                 try clear hx159_1
                 try clear hx159_2
                 try clear hx159_3
                 try clear hx166_0
                 try clear hx72_0
                 try clear hx72_1
                 try clear hx72_2
                 try clear hx72_3
                 try clear p159
                 try clear p166
                 try clear q0131
                 try clear q130
                 try clear q131
                 try clear q159
                 try clear q166
                 obtain ⟨kq, x182_84, rfl, HA, HJ84, HO_110000, HO_110001, HO_157000, HO_157001, HO_174000, HO_174001, BK101, BK102, BK109, BK156, BK173, HB⟩ := hcut
                 have hl157000_84 := (Kd.R_reads' HO_157000.out).1
                 rw [hl157000_84] at HO_157000
                 (try simp only [hl157000_84])
                 (try simp only [hl157000_84] at BK101)
                 (try simp only [hl157000_84] at BK102)
                 (try simp only [hl157000_84] at BK109)
                 (try simp only [hl157000_84] at BK156)
                 (try simp only [hl157000_84] at BK173)
                 (try simp only [hl157000_84] at HO_110000)
                 (try simp only [hl157000_84] at HO_110001)
                 (try simp only [hl157000_84] at HO_157001)
                 (try simp only [hl157000_84] at HO_174000)
                 (try simp only [hl157000_84] at HO_174001)
                 cases kq with
                 | zero => exact absurd HA.out (by simp [walkmilllaw04_TurnEnough.j2])
                 | succ kj84 =>
                  have H := HA.out
                  clear HA
                  simp only [walkmilllaw04_TurnEnough.j2] at H
                  by_cases c138 : x182_84 = true
                  ·
                   subst c138
                   rw [if_pos rfl] at H
                   by_cases c139 : t140 = 0
                   ·
                    rw [if_pos c139] at H
                    have c139b0 : (t140 == 0) = true := beq_iff_eq.mpr c139
                    have c139b1 : (t140 != 0) = false := bne_eq_false_iff_eq.mpr c139
                    clear c139
                    by_cases c140 : t149 = 0
                    ·
                     rw [if_pos c140] at H
                     have c140b0 : (t149 == 0) = true := beq_iff_eq.mpr c140
                     have c140b1 : (t149 != 0) = false := bne_eq_false_iff_eq.mpr c140
                     clear c140
                     by_cases c141 : t165 = 0
                     ·
                      rw [if_pos c141] at H
                      have c141b0 : (t165 == 0) = true := beq_iff_eq.mpr c141
                      have c141b1 : (t165 != 0) = false := bne_eq_false_iff_eq.mpr c141
                      clear c141
                      by_cases c142 : 0 = 0
                      ·
                       (first | rw [if_pos c142] at H | rw [if_pos trivial] at H)
                       have c142b0 : (0 == 0) = true := beq_iff_eq.mpr c142
                       have c142b1 : (0 != 0) = false := bne_eq_false_iff_eq.mpr c142
                       clear c142
                       by_cases c143 : t148 ≤ t139
                       ·
                        rw [if_pos c143] at H
                        have c143b0 : decide (t148 ≤ t139) = true := decide_eq_true c143
                        clear c143
                        by_cases c144 : t164 ≤ t139
                        ·
                         rw [if_pos c144] at H
                         have c144b0 : decide (t164 ≤ t139) = true := decide_eq_true c144
                         clear c144
                         by_cases c145 : 0 ≤ t139
                         ·
                          rw [if_pos c145] at H
                          have c145b0 : decide (0 ≤ t139) = true := decide_eq_true c145
                          clear c145
                          obtain ⟨t188, A146, H⟩ := bi H
                          obtain rfl := Option.some.inj H
                          go_wp2_with (first | (go_at_call 17; (with_reducible refine (walkmilllaw04_known.calls  t188 _ A146.out).mono ?_); rintro e w147 ⟨rfl, hb⟩; replace HO_110000 := rb HO_110000 hb; replace HO_110001 := rb HO_110001 hb; replace HO_157000 := rb HO_157000 hb; replace HO_157001 := rb HO_157001 hb; replace HO_174000 := rb HO_174000 hb; replace HO_174001 := rb HO_174001 hb; replace BK101 := bb BK101 hb; replace BK102 := bb BK102 hb; replace BK109 := bb BK109 hb; replace BK156 := bb BK156 hb; replace BK173 := bb BK173 hb; replace HB := bs HB hb; (try clear hb); (try clear hb2); (try clear hk); (try clear hi)))
                          go_ret
                          exact ⟨by first | rfl | (simp [errW_none, errW_some] <;> rfl) | (simp only [← hji69, ← hji75, ← hji81]; first | rfl | (simp [errW_none, errW_some] <;> rfl)) | (simp [*, errW_none, errW_some] <;> rfl), pE HB⟩
                         ·
                          rw [if_neg c145] at H
                          have c145b0 : decide (0 ≤ t139) = false := decide_eq_false c145
                          clear c145
                          exact absurd ((Option.some.inj H).trans HRT.out) (by simp)
                        ·
                         rw [if_neg c144] at H
                         have c144b0 : decide (t164 ≤ t139) = false := decide_eq_false c144
                         clear c144
                         exact absurd ((Option.some.inj H).trans HRT.out) (by simp)
                       ·
                        rw [if_neg c143] at H
                        have c143b0 : decide (t148 ≤ t139) = false := decide_eq_false c143
                        clear c143
                        exact absurd ((Option.some.inj H).trans HRT.out) (by simp)
                      ·
                       exact absurd rfl c142
                     ·
                      rw [if_neg c141] at H
                      have c141b0 : (t165 == 0) = false := beq_eq_false_iff_ne.mpr c141
                      have c141b1 : (t165 != 0) = true := bne_iff_ne.mpr c141
                      exact absurd ((Option.some.inj H).trans HRT.out) (by simp)
                    ·
                     rw [if_neg c140] at H
                     have c140b0 : (t149 == 0) = false := beq_eq_false_iff_ne.mpr c140
                     have c140b1 : (t149 != 0) = true := bne_iff_ne.mpr c140
                     exact absurd ((Option.some.inj H).trans HRT.out) (by simp)
                   ·
                    rw [if_neg c139] at H
                    have c139b0 : (t140 == 0) = false := beq_eq_false_iff_ne.mpr c139
                    have c139b1 : (t140 != 0) = true := bne_iff_ne.mpr c139
                    exact absurd ((Option.some.inj H).trans HRT.out) (by simp)
                  ·
                   replace c138 := Bool.eq_false_iff.mpr c138
                   subst c138
                   rw [if_neg (show ¬ (false = true) by decide)] at H
                   by_cases c148 : t140 = 0
                   ·
                    rw [if_pos c148] at H
                    have c148b0 : (t140 == 0) = true := beq_iff_eq.mpr c148
                    have c148b1 : (t140 != 0) = false := bne_eq_false_iff_eq.mpr c148
                    clear c148
                    by_cases c149 : t149 = 0
                    ·
                     rw [if_pos c149] at H
                     have c149b0 : (t149 == 0) = true := beq_iff_eq.mpr c149
                     have c149b1 : (t149 != 0) = false := bne_eq_false_iff_eq.mpr c149
                     clear c149
                     by_cases c150 : t165 = 0
                     ·
                      rw [if_pos c150] at H
                      have c150b0 : (t165 == 0) = true := beq_iff_eq.mpr c150
                      have c150b1 : (t165 != 0) = false := bne_eq_false_iff_eq.mpr c150
                      clear c150
                      by_cases c151 : t187 = 0
                      ·
                       rw [if_pos c151] at H
                       have c151b0 : (t187 == 0) = true := beq_iff_eq.mpr c151
                       have c151b1 : (t187 != 0) = false := bne_eq_false_iff_eq.mpr c151
                       clear c151
                       by_cases c152 : t148 ≤ t139
                       ·
                        rw [if_pos c152] at H
                        have c152b0 : decide (t148 ≤ t139) = true := decide_eq_true c152
                        clear c152
                        by_cases c153 : t164 ≤ t139
                        ·
                         rw [if_pos c153] at H
                         have c153b0 : decide (t164 ≤ t139) = true := decide_eq_true c153
                         clear c153
                         by_cases c154 : t186 ≤ t139
                         ·
                          rw [if_pos c154] at H
                          have c154b0 : decide (t186 ≤ t139) = true := decide_eq_true c154
                          clear c154
                          obtain ⟨t189, A155, H⟩ := bi H
                          obtain rfl := Option.some.inj H
                          go_wp2_with (first | (go_at_call 17; (with_reducible refine (walkmilllaw04_known.calls  t189 _ A155.out).mono ?_); rintro e w156 ⟨rfl, hb⟩; replace HO_110000 := rb HO_110000 hb; replace HO_110001 := rb HO_110001 hb; replace HO_157000 := rb HO_157000 hb; replace HO_157001 := rb HO_157001 hb; replace HO_174000 := rb HO_174000 hb; replace HO_174001 := rb HO_174001 hb; replace BK101 := bb BK101 hb; replace BK102 := bb BK102 hb; replace BK109 := bb BK109 hb; replace BK156 := bb BK156 hb; replace BK173 := bb BK173 hb; replace HB := bs HB hb; (try clear hb); (try clear hb2); (try clear hk); (try clear hi)))
                          go_ret
                          exact ⟨by first | rfl | (simp [errW_none, errW_some] <;> rfl) | (simp only [← hji69, ← hji75, ← hji81]; first | rfl | (simp [errW_none, errW_some] <;> rfl)) | (simp [*, errW_none, errW_some] <;> rfl), pE HB⟩
                         ·
                          rw [if_neg c154] at H
                          have c154b0 : decide (t186 ≤ t139) = false := decide_eq_false c154
                          clear c154
                          exact absurd ((Option.some.inj H).trans HRT.out) (by simp)
                        ·
                         rw [if_neg c153] at H
                         have c153b0 : decide (t164 ≤ t139) = false := decide_eq_false c153
                         clear c153
                         exact absurd ((Option.some.inj H).trans HRT.out) (by simp)
                       ·
                        rw [if_neg c152] at H
                        have c152b0 : decide (t148 ≤ t139) = false := decide_eq_false c152
                        clear c152
                        exact absurd ((Option.some.inj H).trans HRT.out) (by simp)
                      ·
                       rw [if_neg c151] at H
                       have c151b0 : (t187 == 0) = false := beq_eq_false_iff_ne.mpr c151
                       have c151b1 : (t187 != 0) = true := bne_iff_ne.mpr c151
                       exact absurd ((Option.some.inj H).trans HRT.out) (by simp)
                     ·
                      rw [if_neg c150] at H
                      have c150b0 : (t165 == 0) = false := beq_eq_false_iff_ne.mpr c150
                      have c150b1 : (t165 != 0) = true := bne_iff_ne.mpr c150
                      exact absurd ((Option.some.inj H).trans HRT.out) (by simp)
                    ·
                     rw [if_neg c149] at H
                     have c149b0 : (t149 == 0) = false := beq_eq_false_iff_ne.mpr c149
                     have c149b1 : (t149 != 0) = true := bne_iff_ne.mpr c149
                     exact absurd ((Option.some.inj H).trans HRT.out) (by simp)
                   ·
                    rw [if_neg c148] at H
                    have c148b0 : (t140 == 0) = false := beq_eq_false_iff_ne.mpr c148
                    have c148b1 : (t140 != 0) = true := bne_iff_ne.mpr c148
                    exact absurd ((Option.some.inj H).trans HRT.out) (by simp)
               ·
                rw [if_neg c83] at H
                exact absurd H (by simp)
              ·
               rw [if_neg c82] at H
               exact absurd H (by simp)
             ·
              rw [if_neg c80] at H
              exact absurd H (by simp)
            ·
             rw [if_neg c79] at H
             exact absurd H (by simp)
           ·
            rw [if_neg c77] at H
            exact absurd H (by simp)
          ·
           rw [if_neg c76] at H
           exact absurd H (by simp)
         ·
          rw [if_neg c71] at H
          exact absurd H (by simp)
        ·
         rw [if_neg c70] at H
         exact absurd H (by simp)
end Go.Proofs.YtlmglnobdcgbeaaGreat.P
