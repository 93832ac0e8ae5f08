/- Part 8 of what the law's proof needs: words, walks of functions and plain facts. -/
import Derived.Deep.Slices
import Derived.OpenShut
import Derived.ChangeArms
import Derived.Test.YtlmglnobdcgbeaaGreatC01
import Derived.Test.YtlmglnobdcgbeaaGreatC02
import Derived.Test.YtlmglnobdcgbeaaGreatC03
import Derived.Test.YtlmglnobdcgbeaaGreatC04
import Derived.Test.YtlmglnobdcgbeaaGreatC05
import Derived.Test.YtlmglnobdcgbeaaGreatC07
set_option linter.unusedVariables false
set_option linter.unusedSimpArgs false
namespace Go.Proofs.YtlmglnobdcgbeaaGreat.P
open Go.RowKit Go.Proofs.YtlmglnobdcgbeaaGreatW.PrintWords Go.Proofs.YtlmglnobdcgbeaaGreatW.PrintLast Go.Proofs.YtlmglnobdcgbeaaGreatW.PrintMore
attribute [local go_sem] max2_int min2_int max_two min_two max_three min_three max_four min_four
mutual
def walkmilllaw04_TurnSlacks.j0 : Nat → Int → Int → Int → Int → Int → Int → Bool → List (S67) → List Int → Option (Bool)
 | 0, _, _, _, _, _, _, _, _, _ => none
 | k + 1, x1, x8, x9, x10, x11, x12, x48, x102000, x102001 => if x48 = true then (walkmilllaw04_TurnSlacks.j1 k x1 x8 x9 x10 x11 7 x102000 x102001) else (walkmilllaw04_TurnSlacks.j1 k x1 x8 x9 x10 x11 x12 x102000 x102001)
def walkmilllaw04_TurnSlacks.j1 : Nat → Int → Int → Int → Int → Int → Int → List (S67) → List Int → Option (Bool)
 | 0, _, _, _, _, _, _, _, _ => none
 | k + 1, x1, x8, x9, x10, x11, x12, x102000, x102001 => if x12 = 0 then ((walkmillref04_Order.f k x102000 x102001).bind fun t117 => ((walkmillref04_Late.f k x102000 x102001 t117 x1 x8).bind fun t120 => (walkmilllaw04_TurnSlacks.j2 k x1 x8 x9 x10 x11 x12 t120 x102000 x102001))) else (walkmilllaw04_TurnSlacks.j2 k x1 x8 x9 x10 x11 x12 false x102000 x102001)
def walkmilllaw04_TurnSlacks.j2 : Nat → Int → Int → Int → Int → Int → Int → Bool → List (S67) → List Int → Option (Bool)
 | 0, _, _, _, _, _, _, _, _, _ => none
 | k + 1, x1, x8, x9, x10, x11, x12, x58, x102000, x102001 => if x58 = true then (walkmilllaw04_TurnSlacks.j3 k x1 x8 x9 x10 x11 9 x102000 x102001) else (walkmilllaw04_TurnSlacks.j3 k x1 x8 x9 x10 x11 x12 x102000 x102001)
def walkmilllaw04_TurnSlacks.j3 : Nat → Int → Int → Int → Int → Int → Int → List (S67) → List Int → Option (Bool)
 | 0, _, _, _, _, _, _, _, _ => none
 | k + 1, x1, x8, x9, x10, x11, x12, x102000, x102001 => if x12 = 0 then (if x11 = 0 then ((walkmillref04_Slack.f k x102000 x102001 x1 x8 x9).bind fun t122 => (if x10 = t122 then ((walkmilllaw04_known.f).bind fun t123 => (some t123)) else (some false))) else (some false)) else (if x11 = x12 then (if x10 = 0 then ((walkmilllaw04_known.f).bind fun t121 => (some t121)) else (some false)) else (some false))
end
def walkmilllaw04_TurnSlacks.f (k : Nat) (l0_0 : List (S67)) (l0_1 : List Int) (a1 : Int) (a2_0 : Int) (a2_1 : Int) : Option (Bool) := (walkmilllaw04_long.f l0_0 l0_1).bind fun t103 => (if t103 = true then ((walkmilllaw04_known.f).bind fun t104 => (some t104)) else ((walkmillref04_Copy.f l0_0 l0_1).bind fun bt105 => ((turn_Slack.f k bt105.1 bt105.2 a1 a2_0 a2_1).bind fun bt112 => ((walkmillref04_Same.f k bt105.1 bt105.2 l0_0 l0_1).bind fun t114 => (if t114 = true then ((walkmillref04_Open.f k l0_0 l0_1 a1 a2_0).bind fun t115 => (if t115 = 0 then ((walkmillref04_In.f a2_1 0 (wrap64 ((l0_0.length : Int) - 1))).bind fun t116 => (walkmilllaw04_TurnSlacks.j0 k a1 a2_0 a2_1 bt112.1 bt112.2 t115 (!t116) l0_0 l0_1)) else (walkmilllaw04_TurnSlacks.j0 k a1 a2_0 a2_1 bt112.1 bt112.2 t115 false l0_0 l0_1))) else (some false))))))
theorem walkmilllaw04_TurnSlacks.mono_l : ∀ k, (∀ y0 y1 y2 y3 y4 y5 y6 y7 y8, LeO (walkmilllaw04_TurnSlacks.j0 k y0 y1 y2 y3 y4 y5 y6 y7 y8) (walkmilllaw04_TurnSlacks.j0 (k + 1) y0 y1 y2 y3 y4 y5 y6 y7 y8)) ∧ (∀ y0 y1 y2 y3 y4 y5 y6 y7, LeO (walkmilllaw04_TurnSlacks.j1 k y0 y1 y2 y3 y4 y5 y6 y7) (walkmilllaw04_TurnSlacks.j1 (k + 1) y0 y1 y2 y3 y4 y5 y6 y7)) ∧ (∀ y0 y1 y2 y3 y4 y5 y6 y7 y8, LeO (walkmilllaw04_TurnSlacks.j2 k y0 y1 y2 y3 y4 y5 y6 y7 y8) (walkmilllaw04_TurnSlacks.j2 (k + 1) y0 y1 y2 y3 y4 y5 y6 y7 y8)) ∧ (∀ y0 y1 y2 y3 y4 y5 y6 y7, LeO (walkmilllaw04_TurnSlacks.j3 k y0 y1 y2 y3 y4 y5 y6 y7) (walkmilllaw04_TurnSlacks.j3 (k + 1) y0 y1 y2 y3 y4 y5 y6 y7))
 | 0 => ⟨fun _ _ _ _ _ _ _ _ _ r h => by simp [walkmilllaw04_TurnSlacks.j0] at h, fun _ _ _ _ _ _ _ _ r h => by simp [walkmilllaw04_TurnSlacks.j1] at h, fun _ _ _ _ _ _ _ _ _ r h => by simp [walkmilllaw04_TurnSlacks.j2] at h, fun _ _ _ _ _ _ _ _ r h => by simp [walkmilllaw04_TurnSlacks.j3] at h⟩
 | k + 1 => by
  obtain ⟨ih0, ih1, ih2, ih3⟩ := walkmilllaw04_TurnSlacks.mono_l k
  refine ⟨?_, ?_, ?_, ?_⟩
  ·intro y0 y1 y2 y3 y4 y5 y6 y7 y8
   unfold walkmilllaw04_TurnSlacks.j0
   repeat' first
   | (with_reducible exact ih0 _ _ _ _ _ _ _ _ _)
   | (with_reducible exact ih1 _ _ _ _ _ _ _ _)
   | (with_reducible exact ih2 _ _ _ _ _ _ _ _ _)
   | (with_reducible exact ih3 _ _ _ _ _ _ _ _)
   | (with_reducible exact turn_Slack.mono _ _ _ _ _ _)
   | (with_reducible exact walkmillref04_Late.mono _ _ _ _ _ _)
   | (with_reducible exact walkmillref04_Open.mono _ _ _ _ _)
   | (with_reducible exact walkmillref04_Order.mono _ _ _)
   | (with_reducible exact walkmillref04_Same.mono _ _ _ _ _)
   | (with_reducible exact walkmillref04_Slack.mono _ _ _ _ _ _)
   | (with_reducible exact LeO.refl _)
   | (with_reducible exact LeO.none _)
   | (with_reducible refine LeO.ite ?_ ?_)
   | (with_reducible refine LeO.bind ?_ (fun _ => ?_))
   | exact ih0 _ _ _ _ _ _ _ _ _
   | exact ih1 _ _ _ _ _ _ _ _
   | exact ih2 _ _ _ _ _ _ _ _ _
   | exact ih3 _ _ _ _ _ _ _ _
   | exact turn_Slack.mono _ _ _ _ _ _
   | exact walkmillref04_Late.mono _ _ _ _ _ _
   | exact walkmillref04_Open.mono _ _ _ _ _
   | exact walkmillref04_Order.mono _ _ _
   | exact walkmillref04_Same.mono _ _ _ _ _
   | exact walkmillref04_Slack.mono _ _ _ _ _ _
   | exact LeO.none _
   | refine LeO.ite ?_ ?_
   | refine LeO.bind ?_ (fun _ => ?_)
  ·intro y0 y1 y2 y3 y4 y5 y6 y7
   unfold walkmilllaw04_TurnSlacks.j1
   repeat' first
   | (with_reducible exact ih0 _ _ _ _ _ _ _ _ _)
   | (with_reducible exact ih1 _ _ _ _ _ _ _ _)
   | (with_reducible exact ih2 _ _ _ _ _ _ _ _ _)
   | (with_reducible exact ih3 _ _ _ _ _ _ _ _)
   | (with_reducible exact turn_Slack.mono _ _ _ _ _ _)
   | (with_reducible exact walkmillref04_Late.mono _ _ _ _ _ _)
   | (with_reducible exact walkmillref04_Open.mono _ _ _ _ _)
   | (with_reducible exact walkmillref04_Order.mono _ _ _)
   | (with_reducible exact walkmillref04_Same.mono _ _ _ _ _)
   | (with_reducible exact walkmillref04_Slack.mono _ _ _ _ _ _)
   | (with_reducible exact LeO.refl _)
   | (with_reducible exact LeO.none _)
   | (with_reducible refine LeO.ite ?_ ?_)
   | (with_reducible refine LeO.bind ?_ (fun _ => ?_))
   | exact ih0 _ _ _ _ _ _ _ _ _
   | exact ih1 _ _ _ _ _ _ _ _
   | exact ih2 _ _ _ _ _ _ _ _ _
   | exact ih3 _ _ _ _ _ _ _ _
   | exact turn_Slack.mono _ _ _ _ _ _
   | exact walkmillref04_Late.mono _ _ _ _ _ _
   | exact walkmillref04_Open.mono _ _ _ _ _
   | exact walkmillref04_Order.mono _ _ _
   | exact walkmillref04_Same.mono _ _ _ _ _
   | exact walkmillref04_Slack.mono _ _ _ _ _ _
   | exact LeO.none _
   | refine LeO.ite ?_ ?_
   | refine LeO.bind ?_ (fun _ => ?_)
  ·intro y0 y1 y2 y3 y4 y5 y6 y7 y8
   unfold walkmilllaw04_TurnSlacks.j2
   repeat' first
   | (with_reducible exact ih0 _ _ _ _ _ _ _ _ _)
   | (with_reducible exact ih1 _ _ _ _ _ _ _ _)
   | (with_reducible exact ih2 _ _ _ _ _ _ _ _ _)
   | (with_reducible exact ih3 _ _ _ _ _ _ _ _)
   | (with_reducible exact turn_Slack.mono _ _ _ _ _ _)
   | (with_reducible exact walkmillref04_Late.mono _ _ _ _ _ _)
   | (with_reducible exact walkmillref04_Open.mono _ _ _ _ _)
   | (with_reducible exact walkmillref04_Order.mono _ _ _)
   | (with_reducible exact walkmillref04_Same.mono _ _ _ _ _)
   | (with_reducible exact walkmillref04_Slack.mono _ _ _ _ _ _)
   | (with_reducible exact LeO.refl _)
   | (with_reducible exact LeO.none _)
   | (with_reducible refine LeO.ite ?_ ?_)
   | (with_reducible refine LeO.bind ?_ (fun _ => ?_))
   | exact ih0 _ _ _ _ _ _ _ _ _
   | exact ih1 _ _ _ _ _ _ _ _
   | exact ih2 _ _ _ _ _ _ _ _ _
   | exact ih3 _ _ _ _ _ _ _ _
   | exact turn_Slack.mono _ _ _ _ _ _
   | exact walkmillref04_Late.mono _ _ _ _ _ _
   | exact walkmillref04_Open.mono _ _ _ _ _
   | exact walkmillref04_Order.mono _ _ _
   | exact walkmillref04_Same.mono _ _ _ _ _
   | exact walkmillref04_Slack.mono _ _ _ _ _ _
   | exact LeO.none _
   | refine LeO.ite ?_ ?_
   | refine LeO.bind ?_ (fun _ => ?_)
  ·intro y0 y1 y2 y3 y4 y5 y6 y7
   unfold walkmilllaw04_TurnSlacks.j3
   repeat' first
   | (with_reducible exact ih0 _ _ _ _ _ _ _ _ _)
   | (with_reducible exact ih1 _ _ _ _ _ _ _ _)
   | (with_reducible exact ih2 _ _ _ _ _ _ _ _ _)
   | (with_reducible exact ih3 _ _ _ _ _ _ _ _)
   | (with_reducible exact turn_Slack.mono _ _ _ _ _ _)
   | (with_reducible exact walkmillref04_Late.mono _ _ _ _ _ _)
   | (with_reducible exact walkmillref04_Open.mono _ _ _ _ _)
   | (with_reducible exact walkmillref04_Order.mono _ _ _)
   | (with_reducible exact walkmillref04_Same.mono _ _ _ _ _)
   | (with_reducible exact walkmillref04_Slack.mono _ _ _ _ _ _)
   | (with_reducible exact LeO.refl _)
   | (with_reducible exact LeO.none _)
   | (with_reducible refine LeO.ite ?_ ?_)
   | (with_reducible refine LeO.bind ?_ (fun _ => ?_))
   | exact ih0 _ _ _ _ _ _ _ _ _
   | exact ih1 _ _ _ _ _ _ _ _
   | exact ih2 _ _ _ _ _ _ _ _ _
   | exact ih3 _ _ _ _ _ _ _ _
   | exact turn_Slack.mono _ _ _ _ _ _
   | exact walkmillref04_Late.mono _ _ _ _ _ _
   | exact walkmillref04_Open.mono _ _ _ _ _
   | exact walkmillref04_Order.mono _ _ _
   | exact walkmillref04_Same.mono _ _ _ _ _
   | exact walkmillref04_Slack.mono _ _ _ _ _ _
   | exact LeO.none _
   | refine LeO.ite ?_ ?_
   | refine LeO.bind ?_ (fun _ => ?_)
theorem walkmilllaw04_TurnSlacks.mono : ∀ a0 a1 a2 a3 a4 k, LeO (walkmilllaw04_TurnSlacks.f k a0 a1 a2 a3 a4) (walkmilllaw04_TurnSlacks.f (k + 1) a0 a1 a2 a3 a4) := by
 intro a0 a1 a2 a3 a4 k
 obtain ⟨ih0, ih1, ih2, ih3⟩ := walkmilllaw04_TurnSlacks.mono_l k
 unfold walkmilllaw04_TurnSlacks.f
 repeat' first
   | (with_reducible exact ih0 _ _ _ _ _ _ _ _ _)
   | (with_reducible exact ih1 _ _ _ _ _ _ _ _)
   | (with_reducible exact ih2 _ _ _ _ _ _ _ _ _)
   | (with_reducible exact ih3 _ _ _ _ _ _ _ _)
   | (with_reducible exact turn_Slack.mono _ _ _ _ _ _)
   | (with_reducible exact walkmillref04_Late.mono _ _ _ _ _ _)
   | (with_reducible exact walkmillref04_Open.mono _ _ _ _ _)
   | (with_reducible exact walkmillref04_Order.mono _ _ _)
   | (with_reducible exact walkmillref04_Same.mono _ _ _ _ _)
   | (with_reducible exact walkmillref04_Slack.mono _ _ _ _ _ _)
   | (with_reducible exact LeO.refl _)
   | (with_reducible exact LeO.none _)
   | (with_reducible refine LeO.ite ?_ ?_)
   | (with_reducible refine LeO.bind ?_ (fun _ => ?_))
   | exact ih0 _ _ _ _ _ _ _ _ _
   | exact ih1 _ _ _ _ _ _ _ _
   | exact ih2 _ _ _ _ _ _ _ _ _
   | exact ih3 _ _ _ _ _ _ _ _
   | exact turn_Slack.mono _ _ _ _ _ _
   | exact walkmillref04_Late.mono _ _ _ _ _ _
   | exact walkmillref04_Open.mono _ _ _ _ _
   | exact walkmillref04_Order.mono _ _ _
   | exact walkmillref04_Same.mono _ _ _ _ _
   | exact walkmillref04_Slack.mono _ _ _ _ _ _
   | exact LeO.none _
   | refine LeO.ite ?_ ?_
   | refine LeO.bind ?_ (fun _ => ?_)
def walkmilllaw04_TurnSlacks.T3 : Bool × List (List Nat × List Nat) := (true, [([], []), ([0], [0]), ([], []), ([2], [2]), ([], []), ([4], [4]), ([], []), ([6, 1, 1, 0, 1, 6], [1, 6]), ([3, 7, 0, 1, 2, 3, 6, 7], [3]), ([5, 8, 0, 1, 2, 3, 4, 5, 6, 7, 8], [5])])
def walkmilllaw04_TurnSlacks.B3 : List Nat := [0, 1, 0, 4, 0, 16, 0, 67, 207, 511]
theorem walkmilllaw04_TurnSlacks.tab3 : rtab .any (opsOf Tryz.f9 3) = walkmilllaw04_TurnSlacks.T3 := by kernel_rfl
theorem walkmilllaw04_TurnSlacks.bits3 : waitsOk walkmilllaw04_TurnSlacks.T3.2 walkmilllaw04_TurnSlacks.B3 = true := by kernel_rfl
def walkmilllaw04_TurnSlacks.T10 : Bool × List (List Nat × List Nat) := (true, [([], []), ([0], [0]), ([1], [1]), ([2], [2]), ([2], [2]), ([4, 2, 2], [2, 4]), ([2], [2]), ([2], [2]), ([3, 5, 6, 7, 5, 2], [2, 3, 5, 6, 7]), ([2, 8], [2, 8])])
def walkmilllaw04_TurnSlacks.B10 : List Nat := [0, 1, 3, 7, 7, 23, 7, 7, 255, 511]
theorem walkmilllaw04_TurnSlacks.tab10 : rtab .any (opsOf Tryz.f9 10) = walkmilllaw04_TurnSlacks.T10 := by kernel_rfl
theorem walkmilllaw04_TurnSlacks.bits10 : waitsOk walkmilllaw04_TurnSlacks.T10.2 walkmilllaw04_TurnSlacks.B10 = true := by kernel_rfl
set_option maxHeartbeats 8000000 in
set_option maxRecDepth 100000 in
theorem walkmilllaw04_TurnSlacks.calls_true (k : Nat) (A0_0 : Option Addr) (c0_0 : Nat) (l0_0 : List (S67)) (A0_1 : Option Addr) (c0_1 : Nat) (l0_1 : List Int) (a1 : Int) (a2_0 : Int) (a2_1 : Int) (r : Bool) (w : World) (hr0_0 : Kd.C k67 w A0_0 l0_0.length l0_0) (hc0_0 : l0_0.length ≤ c0_0) (hr0_1 : Kd.C (Kd.int .i64) w A0_1 l0_1.length l0_1) (hc0_1 : l0_1.length ≤ c0_1) (hrt : r = true) (h : walkmilllaw04_TurnSlacks.f k l0_0 l0_1 a1 a2_0 a2_1 = some r) :
  Calls Tryz.prog 9 #[.agg #[.slice A0_0 l0_0.length c0_0, .slice A0_1 l0_1.length c0_1], .int .i64 a1, .agg #[.int .i64 a2_0, .int .i64 a2_1]] w fun e w' => e = .returned (.bool r) ∧ Below w.heap.size w w' := by
 have hu25 := Tryz.underlying25
 have hu63 := Tryz.underlying63
 have HRT := Aside0.mk hrt
 clear hrt
 have HR0_0 := Aside0.mk hr0_0
 have HC0_0 := Aside0.mk hc0_0
 clear hr0_0 hc0_0
 have HR0_1 := Aside0.mk hr0_1
 have HC0_1 := Aside0.mk hc0_1
 clear hr0_1 hc0_1
 have HB := Aside0.mk (Below.refl w.heap.size w)
 have H : ((walkmilllaw04_long.f l0_0 l0_1).bind fun t103 => (if t103 = true then ((walkmilllaw04_known.f).bind fun t104 => (some t104)) else ((walkmillref04_Copy.f l0_0 l0_1).bind fun bt105 => ((turn_Slack.f k bt105.1 bt105.2 a1 a2_0 a2_1).bind fun bt112 => ((walkmillref04_Same.f k bt105.1 bt105.2 l0_0 l0_1).bind fun t114 => (if t114 = true then ((walkmillref04_Open.f k l0_0 l0_1 a1 a2_0).bind fun t115 => (if t115 = 0 then ((walkmillref04_In.f a2_1 0 (wrap64 ((l0_0.length : Int) - 1))).bind fun t116 => (walkmilllaw04_TurnSlacks.j0 k a1 a2_0 a2_1 bt112.1 bt112.2 t115 (!t116) l0_0 l0_1)) else (walkmilllaw04_TurnSlacks.j0 k a1 a2_0 a2_1 bt112.1 bt112.2 t115 false l0_0 l0_1))) else (some false))))))) = some r := h
 clear h
 obtain ⟨t103, A4, H⟩ := bi H
 by_cases c5 : t103 = true
 ·subst c5
  rw [if_pos rfl] at H
  obtain ⟨t104, A6, H⟩ := bi H
  obtain rfl := Option.some.inj H
  go_enter Tryz.func9, Tryz.ntmps9
  go_wp2_with (first | ((with_reducible refine gate_dst (N := 3) rfl ?_); (try (refine gate_guard (by rfl) ?_; dsimp only)); refine bx 3 #[.slice A0_0 l0_0.length c0_0, .slice A0_1 l0_1.length c0_1] 25 ?_; intro gb101 hg w7 hbox hb; have BK101 := hbox; have GW101 := gs HB hg; have GE101 := gs HB hg; replace HB := bs HB hb; clear hb hbox hg) | ((with_reducible refine gate_dst (N := 5) rfl ?_); (try (refine gate_guard (by rfl) ?_; dsimp only)); refine bx 5 #[.int .i64 a2_0, .int .i64 a2_1] 63 ?_; intro gb102 hg w8 hbox hb; have BK102 := hbox; have GW102 := gs HB hg; have GE102 := gs HB hg; replace HB := bs HB hb; have NB101_102 := nl BK101 hg; have NB102_101 := nr BK101 hg; replace BK101 := bb BK101 hb; clear hb hbox hg; have hnb9 := NB101_102.out; have hnc9 := NB102_101.out; obtain ⟨hcz10_0, hcz10_1, hfz10_0, hfz10_1⟩ := cf2 BK101) | ((with_reducible refine gc 16 rfl ?_); refine gL 14 Tryz.func16 #[.agg #[.slice A0_0 l0_0.length c0_0, .slice A0_1 l0_1.length c0_1]] ?_; (with_reducible refine (walkmilllaw04_long.calls _ _ l0_0 _ _ l0_1 true _ ?side1 ?side2 ?side3 ?side4 A4.out).mono ?_); (case side1 => exact pC (Kd.C_below HR0_0.out HB.out)); (case side2 => exact HC0_0.out); (case side3 => exact pC (Kd.C_below HR0_1.out HB.out)); (case side4 => exact HC0_1.out); rintro e w11 ⟨rfl, hb⟩; refine ⟨_, rfl, ?_⟩; replace BK101 := bb BK101 hb; replace BK102 := bb BK102 hb; replace HB := bs HB hb; clear hb) | ((with_reducible refine gc 17 rfl ?_); refine gL 15 Tryz.func17 #[] ?_; (with_reducible refine (walkmilllaw04_known.calls  t104 _ A6.out).mono ?_); rintro e w12 ⟨rfl, hb⟩; refine ⟨_, rfl, ?_⟩; replace BK101 := bb BK101 hb; replace BK102 := bb BK102 hb; replace HB := bs HB hb; clear hb))
  go_ret
  exact ⟨eT, pE HB⟩
 ·replace c5 := Bool.eq_false_iff.mpr c5
  subst c5
  rw [if_neg (show ¬ (false = true) by decide)] at H
  obtain ⟨⟨t105, t108⟩, A13, H⟩ := bi H
  obtain ⟨⟨t112, t113⟩, A14, H⟩ := bi H
  obtain ⟨t114, A15, H⟩ := bi H
  by_cases c16 : t114 = true
  ·subst c16
   rw [if_pos rfl] at H
   obtain ⟨t115, A17, H⟩ := bi H
   have HC18 := Aside0.mk H
   clear H
   go_enter Tryz.func9, Tryz.ntmps9
   try go_wp2_with (first | ((with_reducible refine gate_dst (N := 3) rfl ?_); (try (refine gate_guard (by rfl) ?_; dsimp only)); refine bx 3 #[.slice A0_0 l0_0.length c0_0, .slice A0_1 l0_1.length c0_1] 25 ?_; intro gb101 hg w19 hbox hb; have BK101 := hbox; have GW101 := gs HB hg; have GE101 := gs HB hg; replace HB := bs HB hb; clear hb hbox hg) | ((with_reducible refine gate_dst (N := 5) rfl ?_); (try (refine gate_guard (by rfl) ?_; dsimp only)); refine bx 5 #[.int .i64 a2_0, .int .i64 a2_1] 63 ?_; intro gb102 hg w20 hbox hb; have BK102 := hbox; have GW102 := gs HB hg; have GE102 := gs HB hg; replace HB := bs HB hb; have NB101_102 := nl BK101 hg; have NB102_101 := nr BK101 hg; replace BK101 := bb BK101 hb; clear hb hbox hg; have hnb21 := NB101_102.out; have hnc21 := NB102_101.out; obtain ⟨hcz22_0, hcz22_1, hfz22_0, hfz22_1⟩ := cf2 BK101) | ((with_reducible refine gc 16 rfl ?_); refine gL 14 Tryz.func16 #[.agg #[.slice A0_0 l0_0.length c0_0, .slice A0_1 l0_1.length c0_1]] ?_; (with_reducible refine (walkmilllaw04_long.calls _ _ l0_0 _ _ l0_1 false _ ?side1 ?side2 ?side3 ?side4 A4.out).mono ?_); (case side1 => exact pC (Kd.C_below HR0_0.out HB.out)); (case side2 => exact HC0_0.out); (case side3 => exact pC (Kd.C_below HR0_1.out HB.out)); (case side4 => exact HC0_1.out); rintro e w23 ⟨rfl, hb⟩; refine ⟨_, rfl, ?_⟩; replace BK101 := bb BK101 hb; replace BK102 := bb BK102 hb; replace HB := bs HB hb; clear hb))
   replace BK101 := Aside0.mk (blk_drew BK101.out)
   replace BK102 := Aside0.mk (blk_drew BK102.out)
   replace HB := Aside0.mk (below_drew1 HB.out)
   refine start_ (n := 10) (S := fun w' => w'.cell? ⟨gb101, 0, none⟩ = some (.slice A0_0 l0_0.length c0_0) ∧ w'.cell? ⟨gb101, 1, none⟩ = some (.slice A0_1 l0_1.length c0_1) ∧ w'.cell? ⟨gb102, 0, none⟩ = some (.int .i64 a2_0) ∧ w'.cell? ⟨gb102, 1, none⟩ = some (.int .i64 a2_1)) (ds := []) #[false, false, false, false, false, false, false, false, false, false] (by kernel_rfl) rfl rfl ⟨(blk_cell BK101.out 0).trans rfl, (blk_cell BK101.out 1).trans rfl, (blk_cell BK102.out 0).trans rfl, (blk_cell BK102.out 1).trans rfl⟩ (fun hHeld => ?_); refine with_tabW walkmilllaw04_TurnSlacks.tab3 walkmilllaw04_TurnSlacks.bits3 (fun HT_ HW_ => ?_)
   generalize w23.drew = w24 at BK101 BK102 HB hHeld ⊢
   refine pu 2 18 ?_
   refine pu 4 20 ?_
   refine tk 0 16 hHeld ?_
   refine tk 3 19 hHeld ?_
   refine tk 5 21 hHeld ?_
   refine join_ (σ := Value × Value × Nat) 3 #[true, true, true, true, true, true, true, false, false, false] (fun s_ => [(17, .agg #[s_.1, s_.2.1]), (7, .pointer (some ⟨s_.2.2, 0, none⟩))]) (fun s_ w' => (w'.cell? ⟨gb101, 0, none⟩ = some (.slice A0_0 l0_0.length c0_0) ∧ w'.cell? ⟨gb101, 1, none⟩ = some (.slice A0_1 l0_1.length c0_1) ∧ w'.cell? ⟨gb102, 0, none⟩ = some (.int .i64 a2_0) ∧ w'.cell? ⟨gb102, 1, none⟩ = some (.int .i64 a2_1)) ∧ (Kd.R k67 67 w' w.heap.size (fun _ => True) s_.1 t105) ∧ (Kd.R (Kd.int .i64) 3 w' w.heap.size (fun _ => True) s_.2.1 t108) ∧ (w'.heap[gb101]? = some (.cells #[.slice A0_0 l0_0.length c0_0, .slice A0_1 l0_1.length c0_1] 25 (0, 0))) ∧ (w'.heap[gb102]? = some (.cells #[.int .i64 a2_0, .int .i64 a2_1] 63 (0, 0))) ∧ (w'.heap[s_.2.2]? = some (.cells #[.slice none 0 0, .slice none 0 0] 25 (0, 0))) ∧ (w.heap.size ≤ s_.2.2) ∧ (w.heap.size ≤ s_.2.2) ∧ (gb101 ≠ s_.2.2) ∧ (s_.2.2 ≠ gb101) ∧ (gb102 ≠ s_.2.2) ∧ (s_.2.2 ≠ gb102) ∧ (Below w.heap.size w w')) ?_ ?_
   rotate_left
   ·intro hCont
    refine two_ (i := 1) (j := 6) (Ni := some 17) (Nj := some 7) #[true, true, true, true, true, true, false, false, false, false] #[true, false, true, true, true, true, true, false, false, false] rfl rfl rfl rfl (two_of HT_.out (by kernel_rfl)) (by decide) (by decide) (fun K hK => ?_) (fun K hK => ?_)
    ·skip
     refine gO Tryz.func18 #[.agg #[.slice A0_0 l0_0.length c0_0, .slice A0_1 l0_1.length c0_1]] ?_
     with_reducible refine (walkmillref04_Copy.calls _ _ l0_0 _ _ l0_1 t105 t108 _ ?side1 ?side2 ?side3 ?side4 A13.out).mono ?_
     (case side1 => exact pC (Kd.C_below HR0_0.out HB.out))
     (case side2 => exact HC0_0.out)
     (case side3 => exact pC (Kd.C_below HR0_1.out HB.out))
     (case side4 => exact HC0_1.out)
     rintro e w25 ⟨v106, v109, rfl, ho0, ho1, hb⟩
     refine ⟨_, rfl, ?_⟩
     have HO107 := rl ho0 HB
     have HO110 := rl ho1 HB
     replace BK101 := bb BK101 hb
     replace BK102 := bb BK102 hb
     replace HB := bs HB hb
     (try clear hb)
     (try clear hb2)
     (try clear hk)
     (try clear hi)
     (try clear ho0)
     (try clear ho1)
     refine hK.out _ _ ⟨(blk_cell BK101.out 0).trans rfl, (blk_cell BK101.out 1).trans rfl, (blk_cell BK102.out 0).trans rfl, (blk_cell BK102.out 1).trans rfl⟩ (fun hHeld => ?_)
     clear hK K
     refine norm_ (a' := ?_) ?_ ?_
     rotate_left
     ·show Act.put _ (some 17) _ = _
      simp only [Act.put, List.setIfInBounds_toArray, List.set_cons_zero, List.set_cons_succ, i64_w, i32_w]
      rfl
     refine on 6 (fun K hK => ?_)
     refine box_step ?hg (N := 7) ?hd (cs := #[.slice none 0 0, .slice none 0 0]) (t := 25) ?hr ?_; (case hd => rfl); (case hg => rfl); (case hr => first | (go_simp; done) | (go_simp; rfl))
     intro gb111 hg w26 hbox hb
     replace HO107 := rb HO107 hb
     replace HO110 := rb HO110 hb
     have BK111 := Aside0.mk (hbox)
     have GW111 := gs HB hg
     have GE111 := gs HB hg
     replace HB := bs HB hb
     have NB101_111 := nl BK101 hg
     have NB111_101 := nr BK101 hg
     replace BK101 := bb BK101 hb
     have NB102_111 := nl BK102 hg
     have NB111_102 := nr BK102 hg
     replace BK102 := bb BK102 hb
     clear hb hbox hg
     refine hK.out _ _ ⟨(blk_cell BK101.out 0).trans rfl, (blk_cell BK101.out 1).trans rfl, (blk_cell BK102.out 0).trans rfl, (blk_cell BK102.out 1).trans rfl⟩ (fun hHeld => ?_)
     clear hK K
     refine norm_ (a' := ?_) ?_ ?_
     rotate_left
     ·show Act.put _ (some 7) _ = _
      simp only [Act.put, List.setIfInBounds_toArray, List.set_cons_zero, List.set_cons_succ, i64_w, i32_w]
      rfl
     exact norm_ (by simp only [putAll, Act.put, List.setIfInBounds_toArray, List.set_cons_zero, List.set_cons_succ]) (hCont (v106, v109, gb111) _ ⟨hHeld, (pR HO107.out), (pR HO110.out), (pB BK101.out), (pB BK102.out), (pB BK111.out), GW111.out, GE111.out, NB101_111.out, NB111_101.out, NB102_111.out, NB111_102.out, (pE HB)⟩)
    ·skip
     refine box_step ?hg (N := 7) ?hd (cs := #[.slice none 0 0, .slice none 0 0]) (t := 25) ?hr ?_; (case hd => rfl); (case hg => rfl); (case hr => first | (go_simp; done) | (go_simp; rfl))
     intro gb111 hg w25 hbox hb
     have BK111 := Aside0.mk (hbox)
     have GW111 := gs HB hg
     have GE111 := gs HB hg
     replace HB := bs HB hb
     have NB101_111 := nl BK101 hg
     have NB111_101 := nr BK101 hg
     replace BK101 := bb BK101 hb
     have NB102_111 := nl BK102 hg
     have NB111_102 := nr BK102 hg
     replace BK102 := bb BK102 hb
     clear hb hbox hg
     refine hK.out _ _ ⟨(blk_cell BK101.out 0).trans rfl, (blk_cell BK101.out 1).trans rfl, (blk_cell BK102.out 0).trans rfl, (blk_cell BK102.out 1).trans rfl⟩ (fun hHeld => ?_)
     clear hK K
     refine norm_ (a' := ?_) ?_ ?_
     rotate_left
     ·show Act.put _ (some 7) _ = _
      simp only [Act.put, List.setIfInBounds_toArray, List.set_cons_zero, List.set_cons_succ, i64_w, i32_w]
      rfl
     refine on 1 (fun K hK => ?_)
     refine gO Tryz.func18 #[.agg #[.slice A0_0 l0_0.length c0_0, .slice A0_1 l0_1.length c0_1]] ?_
     with_reducible refine (walkmillref04_Copy.calls _ _ l0_0 _ _ l0_1 t105 t108 _ ?side1 ?side2 ?side3 ?side4 A13.out).mono ?_
     (case side1 => exact pC (Kd.C_below HR0_0.out HB.out))
     (case side2 => exact HC0_0.out)
     (case side3 => exact pC (Kd.C_below HR0_1.out HB.out))
     (case side4 => exact HC0_1.out)
     rintro e w26 ⟨v106, v109, rfl, ho0, ho1, hb⟩
     refine ⟨_, rfl, ?_⟩
     have HO107 := rl ho0 HB
     have HO110 := rl ho1 HB
     replace BK101 := bb BK101 hb
     replace BK102 := bb BK102 hb
     replace BK111 := bb BK111 hb
     replace HB := bs HB hb
     (try clear hb)
     (try clear hb2)
     (try clear hk)
     (try clear hi)
     (try clear ho0)
     (try clear ho1)
     refine hK.out _ _ ⟨(blk_cell BK101.out 0).trans rfl, (blk_cell BK101.out 1).trans rfl, (blk_cell BK102.out 0).trans rfl, (blk_cell BK102.out 1).trans rfl⟩ (fun hHeld => ?_)
     clear hK K
     refine norm_ (a' := ?_) ?_ ?_
     rotate_left
     ·show Act.put _ (some 17) _ = _
      simp only [Act.put, List.setIfInBounds_toArray, List.set_cons_zero, List.set_cons_succ, i64_w, i32_w]
      rfl
     exact norm_ (by simp only [putAll, Act.put, List.setIfInBounds_toArray, List.set_cons_zero, List.set_cons_succ]) (hCont (v106, v109, gb111) _ ⟨hHeld, (pR HO107.out), (pR HO110.out), (pB BK101.out), (pB BK102.out), (pB BK111.out), GW111.out, GE111.out, NB101_111.out, NB111_101.out, NB102_111.out, NB111_102.out, (pE HB)⟩)
   rintro ⟨v106, v109, gb111⟩ w27 ⟨hS_, h0_, h1_, h2_, h3_, h4_, h5_, h6_, h7_, h8_, h9_, h10_, h11_⟩
   have n0_ : Aside0 (Kd.R k67 67 w27 w.heap.size (fun _ => True) v106 t105) := ⟨h0_⟩
   have n1_ : Aside0 (Kd.R (Kd.int .i64) 3 w27 w.heap.size (fun _ => True) v109 t108) := ⟨h1_⟩
   have n2_ : Aside0 (w27.heap[gb101]? = some (.cells #[.slice A0_0 l0_0.length c0_0, .slice A0_1 l0_1.length c0_1] 25 (0, 0))) := ⟨h2_⟩
   have n3_ : Aside0 (w27.heap[gb102]? = some (.cells #[.int .i64 a2_0, .int .i64 a2_1] 63 (0, 0))) := ⟨h3_⟩
   have n4_ : Aside0 (w27.heap[gb111]? = some (.cells #[.slice none 0 0, .slice none 0 0] 25 (0, 0))) := ⟨h4_⟩
   have n5_ : Aside0 (w.heap.size ≤ gb111) := ⟨h5_⟩
   have n6_ : Aside0 (w.heap.size ≤ gb111) := ⟨h6_⟩
   have n7_ : Aside0 (gb101 ≠ gb111) := ⟨h7_⟩
   have n8_ : Aside0 (gb111 ≠ gb101) := ⟨h8_⟩
   have n9_ : Aside0 (gb102 ≠ gb111) := ⟨h9_⟩
   have n10_ : Aside0 (gb111 ≠ gb102) := ⟨h10_⟩
   have n11_ : Aside0 (Below w.heap.size w w27) := ⟨h11_⟩
   clear BK101 BK102 HB h0_ h1_ h2_ h3_ h4_ h5_ h6_ h7_ h8_ h9_ h10_ h11_
   have HO107 := n0_
   have HO110 := n1_
   have BK101 := n2_
   have BK102 := n3_
   have BK111 := n4_
   have GW111 := n5_
   have GE111 := n6_
   have NB101_111 := n7_
   have NB111_101 := n8_
   have NB102_111 := n9_
   have NB111_102 := n10_
   have HB := n11_
   clear n0_ n1_ n2_ n3_ n4_ n5_ n6_ n7_ n8_ n9_ n10_ n11_
   have hHeld : w27.cell? ⟨gb101, 0, none⟩ = some (.slice A0_0 l0_0.length c0_0) ∧ w27.cell? ⟨gb101, 1, none⟩ = some (.slice A0_1 l0_1.length c0_1) ∧ w27.cell? ⟨gb102, 0, none⟩ = some (.int .i64 a2_0) ∧ w27.cell? ⟨gb102, 1, none⟩ = some (.int .i64 a2_1) := hS_
   obtain ⟨Ao28, co28, eo28⟩ := Kd.R_slice HO107.out
   (first | subst eo28 | (injection eo28 with f1_ f2_ f3_; have f4_ := f1_.symm; have f5_ := f3_.symm; clear f1_ f2_ f3_; subst f4_; subst f5_))
   obtain ⟨Ao30, co30, eo30⟩ := Kd.R_slice HO110.out
   (first | subst eo30 | (injection eo30 with f1_ f2_ f3_; have f4_ := f1_.symm; have f5_ := f3_.symm; clear f1_ f2_ f3_; subst f4_; subst f5_))
   refine norm_ (a' := ?_) ?_ ?_
   rotate_left
   ·simp only [putAll, Act.put, List.setIfInBounds_toArray, List.set_cons_zero, List.set_cons_succ]
    rfl
   refine on 7 (fun K hK => ?_)
   have hs29 : w27.cell? ⟨gb111, 0, none⟩ = some (.slice none 0 0) := (blk_cell BK111.out 0).trans rfl
   have hfs29 := blk_frozen BK111.out 0
   have hns29_0 := NB101_111.out
   have hns29_1 := NB102_111.out
   have hms29_0 := NB111_101.out
   have hms29_1 := NB111_102.out
   have hs31 : w27.cell? ⟨gb111, 1, none⟩ = some (.slice none 0 0) := (blk_cell BK111.out 1).trans rfl
   have hfs31 := blk_frozen BK111.out 1
   have hns31_0 := NB101_111.out
   have hns31_1 := NB102_111.out
   have hms31_0 := NB111_101.out
   have hms31_1 := NB111_102.out
   refine skip_ (w1 := ?_) (by rfl) rfl ?_ ?_
   rotate_left
   ·go_simp
    rfl
   refine hK.out _ _ ⟨((cell_far (p := ⟨gb111, _, none⟩) NB101_111.out _).trans (((cell_far (p := ⟨gb111, _, none⟩) NB101_111.out _).trans (hHeld.1)))), ((cell_far (p := ⟨gb111, _, none⟩) NB101_111.out _).trans (((cell_far (p := ⟨gb111, _, none⟩) NB101_111.out _).trans (hHeld.2.1)))), ((cell_far (p := ⟨gb111, _, none⟩) NB102_111.out _).trans (((cell_far (p := ⟨gb111, _, none⟩) NB102_111.out _).trans (hHeld.2.2.1)))), ((cell_far (p := ⟨gb111, _, none⟩) NB102_111.out _).trans (((cell_far (p := ⟨gb111, _, none⟩) NB102_111.out _).trans (hHeld.2.2.2))))⟩ (fun hHeld => ?_)
   clear hK K
   refine pu 8 8 ?_
   refine pu 9 9 ?_
   refine done_ (done_of HT_.out (by kernel_rfl)) ?_
   have hnb32 := NB111_101.out
   have hnc32 := NB101_111.out
   have hnb33 := NB111_102.out
   have hnc33 := NB102_111.out
   obtain ⟨hcz34_0, hcz34_1, hfz34_0, hfz34_1⟩ := cf2 BK111
   go_upto_region 8 with (first | ((with_reducible refine gc 43 rfl ?_); refine gL 27 Tryz.func43 #[.agg #[.slice Ao28 t105.length co28, .slice Ao30 t108.length co30], .int .i64 a1, .int .i64 a2_0, .int .i64 a2_1] ?_; (with_reducible refine (turn_Slack.calls k _ _ t105 _ _ t108 a1 a2_0 a2_1 t112 t113 _ ?side1 ?side2 ?side3 ?side4 A14.out).mono ?_); (case side1 => refine (Kd.R_reads' (e := 67) (base := w.heap.size) (ok := fun k_ => True) (n := t105.length) (c := co28) ?_).2.2; exact (by refine pR ?_; exact (Kd.R_mono (Kd.R_far (p := ⟨gb111, 1, none⟩) (Kd.R_far (p := ⟨gb111, 0, none⟩) (Kd.R_types HO107.out BK111.out (by decide)) (fun _ hk => hk.2) (.slice Ao28 t105.length co28)) (fun _ hk => hk.2) (.slice Ao30 t108.length co30)) (fun _ h_ => h_.1)))); (case side2 => exact (Kd.R_reads' HO107.out).2.1); (case side3 => refine (Kd.R_reads' (e := 3) (base := w.heap.size) (ok := fun k_ => True) (n := t108.length) (c := co30) ?_).2.2; exact (by refine pR ?_; exact (Kd.R_mono (Kd.R_far (p := ⟨gb111, 1, none⟩) (Kd.R_far (p := ⟨gb111, 0, none⟩) (Kd.R_types HO110.out BK111.out (by decide)) (fun _ hk => hk.2) (.slice Ao28 t105.length co28)) (fun _ hk => hk.2) (.slice Ao30 t108.length co30)) (fun _ h_ => h_.1)))); (case side4 => exact (Kd.R_reads' HO110.out).2.1); rintro e w35 ⟨rfl, hb⟩; refine ⟨_, rfl, ?_⟩; replace HO107 := Aside0.mk (Kd.R_below (by refine pR ?_; exact (Kd.R_mono (Kd.R_far (p := ⟨gb111, 1, none⟩) (Kd.R_far (p := ⟨gb111, 0, none⟩) (Kd.R_types HO107.out BK111.out (by decide)) (fun _ hk => hk.2) (.slice Ao28 t105.length co28)) (fun _ hk => hk.2) (.slice Ao30 t108.length co30)) (fun _ h_ => h_.1))) hb); replace HO110 := Aside0.mk (Kd.R_below (by refine pR ?_; exact (Kd.R_mono (Kd.R_far (p := ⟨gb111, 1, none⟩) (Kd.R_far (p := ⟨gb111, 0, none⟩) (Kd.R_types HO110.out BK111.out (by decide)) (fun _ hk => hk.2) (.slice Ao28 t105.length co28)) (fun _ hk => hk.2) (.slice Ao30 t108.length co30)) (fun _ h_ => h_.1))) hb); replace BK101 := bf BK101 hb; replace BK102 := bf BK102 hb; replace BK111 := Aside0.mk (blk_below (g := gb111) (o := .cells #[.slice Ao28 t105.length co28, .slice Ao30 t108.length co30] 25 (0, 0)) (by refine pB ?_; refine blk_put (cs := #[.slice Ao28 t105.length co28, .slice none 0 0]) ?_ 1 _ rfl; refine pB ?_; refine blk_put (cs := #[.slice none 0 0, .slice none 0 0]) ?_ 0 _ rfl; (with_reducible repeat (first | refine blk_drewN ?_ _ | refine blk_drew ?_ | refine blk_alloc ?_ _)); exact BK111.out) hb); replace HB := bs HB hb; clear hb; obtain ⟨hcz36_0, hcz36_1, hfz36_0, hfz36_1⟩ := cf2 BK111; obtain ⟨hcz37_0, hcz37_1, hfz37_0, hfz37_1⟩ := cf2 BK101) | ((with_reducible refine gc 22 rfl ?_); refine gL 32 Tryz.func22 #[.agg #[.slice Ao28 t105.length co28, .slice Ao30 t108.length co30], .agg #[.slice A0_0 l0_0.length c0_0, .slice A0_1 l0_1.length c0_1]] ?_; (with_reducible refine (walkmillref04_Same.calls k _ _ t105 _ _ t108 _ _ l0_0 _ _ l0_1 true _ ?side1 ?side2 ?side3 ?side4 ?side5 ?side6 ?side7 ?side8 A15.out).mono ?_); (case side1 => exact pC (Kd.R_reads' HO107.out).2.2); (case side2 => exact (Kd.R_reads' HO107.out).2.1); (case side3 => exact pC (Kd.R_reads' HO110.out).2.2); (case side4 => exact (Kd.R_reads' HO110.out).2.1); (case side5 => exact pC (Kd.C_below HR0_0.out HB.out)); (case side6 => exact HC0_0.out); (case side7 => exact pC (Kd.C_below HR0_1.out HB.out)); (case side8 => exact HC0_1.out); rintro e w38 ⟨rfl, hb⟩; refine ⟨_, rfl, ?_⟩; replace HO107 := rb HO107 hb; replace HO110 := rb HO110 hb; replace BK101 := bb BK101 hb; replace BK102 := bb BK102 hb; replace BK111 := bb BK111 hb; replace HB := bs HB hb; clear hb; obtain ⟨hcz39_0, hcz39_1, hfz39_0, hfz39_1⟩ := cf2 BK101) | ((with_reducible refine gc 28 rfl ?_); refine gL 37 Tryz.func28 #[.agg #[.slice A0_0 l0_0.length c0_0, .slice A0_1 l0_1.length c0_1], .int .i64 a1, .int .i64 a2_0] ?_; (with_reducible refine (walkmillref04_Open.calls k _ _ l0_0 _ _ l0_1 a1 a2_0 t115 _ ?side1 ?side2 ?side3 ?side4 A17.out).mono ?_); (case side1 => exact pC (Kd.C_below HR0_0.out HB.out)); (case side2 => exact HC0_0.out); (case side3 => exact pC (Kd.C_below HR0_1.out HB.out)); (case side4 => exact HC0_1.out); rintro e w40 ⟨rfl, hb⟩; refine ⟨_, rfl, ?_⟩; replace HO107 := rb HO107 hb; replace HO110 := rb HO110 hb; replace BK101 := bb BK101 hb; replace BK102 := bb BK102 hb; replace BK111 := bb BK111 hb; replace HB := bs HB hb; clear hb))
   (try simp only [Act.put, List.setIfInBounds_toArray, List.set_cons_zero, List.set_cons_succ])
   go_cut [48] (fun v48 wc => ∃ (kq : Nat) (x48_17 : Bool), v48 = .bool x48_17 ∧ Aside0 (walkmilllaw04_TurnSlacks.j0 kq a1 a2_0 a2_1 t112 t113 t115 x48_17 l0_0 l0_1 = some r) ∧ Aside0 (kq ≤ k) ∧ Aside0 (Kd.R k67 67 wc w.heap.size (fun _ => True) (.slice Ao28 t105.length co28) t105) ∧ Aside0 (Kd.R (Kd.int .i64) 3 wc w.heap.size (fun _ => True) (.slice Ao30 t108.length co30) t108) ∧ Aside0 (wc.heap[gb101]? = some (.cells #[(.slice A0_0 l0_0.length c0_0), (.slice A0_1 l0_1.length c0_1)] 25 (0, 0))) ∧ Aside0 (wc.heap[gb102]? = some (.cells #[.int .i64 a2_0, .int .i64 a2_1] 63 (0, 0))) ∧ Aside0 (wc.heap[gb111]? = some (.cells #[(.slice Ao28 t105.length co28), (.slice Ao30 t108.length co30)] 25 (0, 0))) ∧ Aside0 (Below w.heap.size w wc))
   case first =>
    have H := HC18.out
    clear HC18
    by_cases c41 : t115 = 0
    ·rw [if_pos c41] at H
     have c41b0 : (t115 == 0) = true := beq_iff_eq.mpr c41
     have c41b1 : (t115 != 0) = false := bne_eq_false_iff_eq.mpr c41
     clear c41
     (first | rw [c41b0] | (simp only [i64_w, i32_w]; rw [c41b0]) | skip)
     obtain ⟨t116, A42, H⟩ := bi H
     have H' := Aside0.mk H
     clear H
     have hnb43 := NB101_102.out
     have hnc43 := NB102_101.out
     have hnb44 := NB101_111.out
     have hnc44 := NB111_101.out
     obtain ⟨hcz45_0, hcz45_1, hfz45_0, hfz45_1⟩ := cf2 BK101
     go_wp2_with (first | (go_at_call 41; (with_reducible refine (walkmillref04_In.calls a2_1 0 (wrap64 ((l0_0.length : Int) - 1)) t116 _ A42.out).mono ?_); rintro e w' ⟨rfl, ⟨nd, rfl⟩⟩))
     go_meet
     case rel => exact ⟨_, (!t116), (by first | rfl | (simp; done) | (simp [*]; done)), H', ⟨by first | omega | exact Nat.le_refl _⟩, ⟨by (with_reducible repeat (first | apply Kd.R_alloc | apply Kd.R_drewN | apply Kd.R_drew)); exact HO107.out⟩, ⟨by (with_reducible repeat (first | apply Kd.R_alloc | apply Kd.R_drewN | apply Kd.R_drew)); exact HO110.out⟩, ⟨by (with_reducible repeat (first | refine blk_drewN ?_ _ | refine blk_drew ?_ | refine blk_alloc ?_ _)); exact BK101.out⟩, ⟨by (with_reducible repeat (first | refine blk_drewN ?_ _ | refine blk_drew ?_ | refine blk_alloc ?_ _)); exact BK102.out⟩, ⟨by (with_reducible repeat (first | refine blk_drewN ?_ _ | refine blk_drew ?_ | refine blk_alloc ?_ _)); exact BK111.out⟩, ⟨pE HB⟩⟩
    ·rw [if_neg c41] at H
     have c41b0 : (t115 == 0) = false := beq_eq_false_iff_ne.mpr c41
     have c41b1 : (t115 != 0) = true := bne_iff_ne.mpr c41
     (first | rw [c41b0] | (simp only [i64_w, i32_w]; rw [c41b0]) | skip)
     have H' := Aside0.mk H
     clear H
     go_wp2
     go_meet
     case rel => exact ⟨_, (false), (by first | rfl | (simp; done) | (simp [*]; done)), H', ⟨by first | omega | exact Nat.le_refl _⟩, ⟨by (with_reducible repeat (first | apply Kd.R_alloc | apply Kd.R_drewN | apply Kd.R_drew)); exact HO107.out⟩, ⟨by (with_reducible repeat (first | apply Kd.R_alloc | apply Kd.R_drewN | apply Kd.R_drew)); exact HO110.out⟩, ⟨by (with_reducible repeat (first | refine blk_drewN ?_ _ | refine blk_drew ?_ | refine blk_alloc ?_ _)); exact BK101.out⟩, ⟨by (with_reducible repeat (first | refine blk_drewN ?_ _ | refine blk_drew ?_ | refine blk_alloc ?_ _)); exact BK102.out⟩, ⟨by (with_reducible repeat (first | refine blk_drewN ?_ _ | refine blk_drew ?_ | refine blk_alloc ?_ _)); exact BK111.out⟩, ⟨pE HB⟩⟩
   case rest =>
    clear HC18
    try clear c1
    try clear c2
    try clear p2
    try clear c3
    try clear c4
    try clear c5
    try clear p6
    try clear c9
    try clear c16
    try clear c17
    try clear c18
    try clear c21
    try clear c22
    try clear c28
    try clear c32
    try clear c33
    try clear c41
    try clear c41b0
    try clear c41b1
    try clear c43
    try clear c44
    try clear hcz10_0
    try clear hcz10_1
    try clear hcz22_0
    try clear hcz22_1
    try clear hcz34_0
    try clear hcz34_1
    try clear hcz36_0
    try clear hcz36_1
    try clear hcz37_0
    try clear hcz37_1
    try clear hcz39_0
    try clear hcz39_1
    try clear hcz45_0
    try clear hcz45_1
    try clear hfz10_0
    try clear hfz10_1
    try clear hfz22_0
    try clear hfz22_1
    try clear hfz34_0
    try clear hfz34_1
    try clear hfz36_0
    try clear hfz36_1
    try clear hfz37_0
    try clear hfz37_1
    try clear hfz39_0
    try clear hfz39_1
    try clear hfz45_0
    try clear hfz45_1
    obtain ⟨kq, x48_17, rfl, HA, HJ17, HO_112000, HO_112001, BK101, BK102, BK111, HB⟩ := hcut
    cases kq with
    | zero => exact absurd HA.out (by simp [walkmilllaw04_TurnSlacks.j0])
    | succ kj17 =>
     have H := HA.out
     clear HA
     simp only [walkmilllaw04_TurnSlacks.j0] at H
     have HC46 := Aside0.mk H
     clear H
     go_upto_if 48 with (fail)
     go_cut [12] (fun v12 wc => ∃ (kq : Nat) (x12_45 : Int), v12 = .int .i64 x12_45 ∧ Aside0 (walkmilllaw04_TurnSlacks.j1 kq a1 a2_0 a2_1 t112 t113 x12_45 l0_0 l0_1 = some r) ∧ Aside0 (kq ≤ kj17) ∧ Aside0 (Kd.R k67 67 wc w.heap.size (fun _ => True) (.slice Ao28 t105.length co28) t105) ∧ Aside0 (Kd.R (Kd.int .i64) 3 wc w.heap.size (fun _ => True) (.slice Ao30 t108.length co30) t108) ∧ Aside0 (wc.heap[gb101]? = some (.cells #[(.slice A0_0 l0_0.length c0_0), (.slice A0_1 l0_1.length c0_1)] 25 (0, 0))) ∧ Aside0 (wc.heap[gb102]? = some (.cells #[.int .i64 a2_0, .int .i64 a2_1] 63 (0, 0))) ∧ Aside0 (wc.heap[gb111]? = some (.cells #[(.slice Ao28 t105.length co28), (.slice Ao30 t108.length co30)] 25 (0, 0))) ∧ Aside0 (Below w.heap.size w wc))
     case first =>
      have H := HC46.out
      clear HC46
      by_cases c47 : x48_17 = true
      ·subst c47
       rw [if_pos rfl] at H
       have H' := Aside0.mk H
       clear H
       go_wp2
       go_meet
       case rel => exact ⟨_, (7), (by first | rfl | (simp; done) | (simp [*]; done)), H', ⟨by have := HJ17.out; first | omega | exact Nat.le_refl _⟩, ⟨by (with_reducible repeat (first | apply Kd.R_alloc | apply Kd.R_drewN | apply Kd.R_drew)); exact HO_112000.out⟩, ⟨by (with_reducible repeat (first | apply Kd.R_alloc | apply Kd.R_drewN | apply Kd.R_drew)); exact HO_112001.out⟩, ⟨by (with_reducible repeat (first | refine blk_drewN ?_ _ | refine blk_drew ?_ | refine blk_alloc ?_ _)); exact BK101.out⟩, ⟨by (with_reducible repeat (first | refine blk_drewN ?_ _ | refine blk_drew ?_ | refine blk_alloc ?_ _)); exact BK102.out⟩, ⟨by (with_reducible repeat (first | refine blk_drewN ?_ _ | refine blk_drew ?_ | refine blk_alloc ?_ _)); exact BK111.out⟩, ⟨pE HB⟩⟩
      ·replace c47 := Bool.eq_false_iff.mpr c47
       subst c47
       rw [if_neg (show ¬ (false = true) by decide)] at H
       have H' := Aside0.mk H
       clear H
       go_wp2
       go_meet
       case rel => exact ⟨_, (t115), (by first | rfl | (simp; done) | (simp [*]; done)), H', ⟨by have := HJ17.out; first | omega | exact Nat.le_refl _⟩, ⟨by (with_reducible repeat (first | apply Kd.R_alloc | apply Kd.R_drewN | apply Kd.R_drew)); exact HO_112000.out⟩, ⟨by (with_reducible repeat (first | apply Kd.R_alloc | apply Kd.R_drewN | apply Kd.R_drew)); exact HO_112001.out⟩, ⟨by (with_reducible repeat (first | refine blk_drewN ?_ _ | refine blk_drew ?_ | refine blk_alloc ?_ _)); exact BK101.out⟩, ⟨by (with_reducible repeat (first | refine blk_drewN ?_ _ | refine blk_drew ?_ | refine blk_alloc ?_ _)); exact BK102.out⟩, ⟨by (with_reducible repeat (first | refine blk_drewN ?_ _ | refine blk_drew ?_ | refine blk_alloc ?_ _)); exact BK111.out⟩, ⟨pE HB⟩⟩
     case rest =>
      clear HC46
      try clear c1
      try clear c2
      try clear p2
      try clear c3
      try clear c4
      try clear c5
      try clear p6
      try clear c9
      try clear c16
      try clear c17
      try clear c18
      try clear c21
      try clear c22
      try clear c28
      try clear c32
      try clear c33
      try clear c41
      try clear c41b0
      try clear c41b1
      try clear c43
      try clear c44
      try clear c47
      try clear hcz10_0
      try clear hcz10_1
      try clear hcz22_0
      try clear hcz22_1
      try clear hcz34_0
      try clear hcz34_1
      try clear hcz36_0
      try clear hcz36_1
      try clear hcz37_0
      try clear hcz37_1
      try clear hcz39_0
      try clear hcz39_1
      try clear hcz45_0
      try clear hcz45_1
      try clear hfz10_0
      try clear hfz10_1
      try clear hfz22_0
      try clear hfz22_1
      try clear hfz34_0
      try clear hfz34_1
      try clear hfz36_0
      try clear hfz36_1
      try clear hfz37_0
      try clear hfz37_1
      try clear hfz39_0
      try clear hfz39_1
      try clear hfz45_0
      try clear hfz45_1
      try clear p2
      try clear p6
      obtain ⟨kq, x12_45, rfl, HA, HJ45, HO_112000, HO_112001, BK101, BK102, BK111, HB⟩ := hcut
      cases kq with
      | zero => exact absurd HA.out (by simp [walkmilllaw04_TurnSlacks.j1])
      | succ kj45 =>
       have H := HA.out
       clear HA
       simp only [walkmilllaw04_TurnSlacks.j1] at H
       have HC48 := Aside0.mk H
       clear H
       go_upto_region 10 with (fail)
       go_cut [58] (fun v58 wc => ∃ (kq : Nat) (x58_47 : Bool), v58 = .bool x58_47 ∧ Aside0 (walkmilllaw04_TurnSlacks.j2 kq a1 a2_0 a2_1 t112 t113 x12_45 x58_47 l0_0 l0_1 = some r) ∧ Aside0 (kq ≤ kj45) ∧ Aside0 (Kd.R k67 67 wc w.heap.size (fun _ => True) (.slice Ao28 t105.length co28) t105) ∧ Aside0 (Kd.R (Kd.int .i64) 3 wc w.heap.size (fun _ => True) (.slice Ao30 t108.length co30) t108) ∧ Aside0 (wc.heap[gb101]? = some (.cells #[(.slice A0_0 l0_0.length c0_0), (.slice A0_1 l0_1.length c0_1)] 25 (0, 0))) ∧ Aside0 (wc.heap[gb102]? = some (.cells #[.int .i64 a2_0, .int .i64 a2_1] 63 (0, 0))) ∧ Aside0 (wc.heap[gb111]? = some (.cells #[(.slice Ao28 t105.length co28), (.slice Ao30 t108.length co30)] 25 (0, 0))) ∧ Aside0 (Below w.heap.size w wc))
       case first =>
        have H := HC48.out
        clear HC48
        by_cases c49 : x12_45 = 0
        ·rw [if_pos c49] at H
         have c49b0 : (x12_45 == 0) = true := beq_iff_eq.mpr c49
         have c49b1 : (x12_45 != 0) = false := bne_eq_false_iff_eq.mpr c49
         clear c49
         (first | rw [c49b0] | (simp only [i64_w, i32_w]; rw [c49b0]) | skip)
         obtain ⟨t117, A50, H⟩ := bi H
         obtain ⟨t120, A51, H⟩ := bi H
         have H' := Aside0.mk H
         clear H
         try go_wp2
         replace HO_112000 := Aside0.mk (Kd.R_drew HO_112000.out)
         replace HO_112001 := Aside0.mk (Kd.R_drew HO_112001.out)
         replace BK101 := Aside0.mk (blk_drew BK101.out)
         replace BK102 := Aside0.mk (blk_drew BK102.out)
         replace BK111 := Aside0.mk (blk_drew BK111.out)
         replace HB := Aside0.mk (below_drew1 HB.out)
         refine start_ (n := 10) (S := fun w' => w'.cell? ⟨gb101, 0, none⟩ = some (.slice A0_0 l0_0.length c0_0) ∧ w'.cell? ⟨gb101, 1, none⟩ = some (.slice A0_1 l0_1.length c0_1)) (ds := []) #[false, false, false, false, false, false, false, false, false, false] (by kernel_rfl) rfl rfl ⟨(blk_cell BK101.out 0).trans rfl, (blk_cell BK101.out 1).trans rfl⟩ (fun hHeld => ?_); refine with_tabW walkmilllaw04_TurnSlacks.tab10 walkmilllaw04_TurnSlacks.bits10 (fun HT_ HW_ => ?_)
         generalize wc.drew = w52 at HO_112000 HO_112001 BK101 BK102 BK111 HB hHeld ⊢
         refine pu 0 49 ?_
         refine pu 1 50 ?_
         refine pu 2 51 ?_
         refine pu 6 55 ?_
         refine pu 7 56 ?_
         refine tk 3 52 hHeld ?_
         refine tk 4 53 hHeld ?_
         refine on 5 (fun K hK => ?_)
         refine gO Tryz.func24 #[.agg #[.slice A0_0 l0_0.length c0_0, .slice A0_1 l0_1.length c0_1]] ?_
         with_reducible refine (walkmillref04_Order.calls kj45 _ _ l0_0 _ _ l0_1 t117 _ ?side1 ?side2 ?side3 ?side4 A50.out).mono ?_
         (case side1 => exact pC (Kd.C_below HR0_0.out HB.out))
         (case side2 => exact HC0_0.out)
         (case side3 => exact pC (Kd.C_below HR0_1.out HB.out))
         (case side4 => exact HC0_1.out)
         rintro e w53 ⟨v118, rfl, ho0, hb⟩
         refine ⟨_, rfl, ?_⟩
         replace HO_112000 := rb HO_112000 hb
         have HO119 := Aside0.mk (Kd.R_lower (Kd.R_new' ho0 (Kd.R_lt (pR HO_112001.out))) (below_size (pE HB)))
         replace HO_112001 := re HO_112001 ho0 hb
         replace BK101 := bb BK101 hb
         replace BK102 := bb BK102 hb
         replace BK111 := bb BK111 hb
         replace HB := bs HB hb
         (try clear hb)
         (try clear hb2)
         (try clear hk)
         (try clear hi)
         (try clear ho0)
         obtain ⟨Ao54, co54, eo54⟩ := Kd.R_slice HO119.out
         (first | subst eo54 | (injection eo54 with f1_ f2_ f3_; have f4_ := f1_.symm; have f5_ := f3_.symm; clear f1_ f2_ f3_; subst f4_; subst f5_))
         refine hK.out _ _ ⟨(blk_cell BK101.out 0).trans rfl, (blk_cell BK101.out 1).trans rfl⟩ (fun hHeld => ?_)
         clear hK K
         refine norm_ (a' := ?_) ?_ ?_
         rotate_left
         ·show Act.put _ (some 54) _ = _
          simp only [Act.put, List.setIfInBounds_toArray, List.set_cons_zero, List.set_cons_succ, i64_w, i32_w]
          rfl
         refine on 8 (fun K hK => ?_)
         refine gO Tryz.func44 #[.agg #[.slice A0_0 l0_0.length c0_0, .slice A0_1 l0_1.length c0_1], .slice Ao54 t117.length co54, .int .i64 a1, .int .i64 a2_0] ?_
         with_reducible refine (walkmillref04_Late.calls kj45 _ _ l0_0 _ _ l0_1 _ _ t117 a1 a2_0 t120 _ ?side1 ?side2 ?side3 ?side4 ?side5 ?side6 A51.out).mono ?_
         (case side1 => exact pC (Kd.C_below HR0_0.out HB.out))
         (case side2 => exact HC0_0.out)
         (case side3 => exact pC (Kd.C_below HR0_1.out HB.out))
         (case side4 => exact HC0_1.out)
         (case side5 => exact pC (Kd.R_reads' HO119.out).2.2)
         (case side6 => exact (Kd.R_reads' HO119.out).2.1)
         rintro e w55 ⟨rfl, hb⟩
         refine ⟨_, rfl, ?_⟩
         replace HO_112000 := rb HO_112000 hb
         replace HO_112001 := rb HO_112001 hb
         replace HO119 := rb HO119 hb
         replace BK101 := bb BK101 hb
         replace BK102 := bb BK102 hb
         replace BK111 := bb BK111 hb
         replace HB := bs HB hb
         (try clear hb)
         (try clear hb2)
         (try clear hk)
         (try clear hi)
         refine hK.out _ _ ⟨(blk_cell BK101.out 0).trans rfl, (blk_cell BK101.out 1).trans rfl⟩ (fun hHeld => ?_)
         clear hK K
         refine norm_ (a' := ?_) ?_ ?_
         rotate_left
         ·show Act.put _ (some 57) _ = _
          simp only [Act.put, List.setIfInBounds_toArray, List.set_cons_zero, List.set_cons_succ, i64_w, i32_w]
          rfl
         refine pu 9 58 ?_
         refine done_ (done_of HT_.out (by kernel_rfl)) ?_
         try go_wp2
         go_meet
         case rel => exact ⟨_, (t120), (by first | rfl | (simp; done) | (simp [*]; done)), H', ⟨by have := HJ17.out; have := HJ45.out; first | omega | exact Nat.le_refl _⟩, ⟨by (with_reducible repeat (first | apply Kd.R_alloc | apply Kd.R_drewN | apply Kd.R_drew)); exact HO_112000.out⟩, ⟨by (with_reducible repeat (first | apply Kd.R_alloc | apply Kd.R_drewN | apply Kd.R_drew)); exact Kd.R_mono HO_112001.out (fun _ hk => trivial)⟩, ⟨by (with_reducible repeat (first | refine blk_drewN ?_ _ | refine blk_drew ?_ | refine blk_alloc ?_ _)); exact BK101.out⟩, ⟨by (with_reducible repeat (first | refine blk_drewN ?_ _ | refine blk_drew ?_ | refine blk_alloc ?_ _)); exact BK102.out⟩, ⟨by (with_reducible repeat (first | refine blk_drewN ?_ _ | refine blk_drew ?_ | refine blk_alloc ?_ _)); exact BK111.out⟩, ⟨pE HB⟩⟩
        ·rw [if_neg c49] at H
         have c49b0 : (x12_45 == 0) = false := beq_eq_false_iff_ne.mpr c49
         have c49b1 : (x12_45 != 0) = true := bne_iff_ne.mpr c49
         (first | rw [c49b0] | (simp only [i64_w, i32_w]; rw [c49b0]) | skip)
         have H' := Aside0.mk H
         clear H
         try go_wp2
         replace HO_112000 := Aside0.mk (Kd.R_drew HO_112000.out)
         replace HO_112001 := Aside0.mk (Kd.R_drew HO_112001.out)
         replace BK101 := Aside0.mk (blk_drew BK101.out)
         replace BK102 := Aside0.mk (blk_drew BK102.out)
         replace BK111 := Aside0.mk (blk_drew BK111.out)
         replace HB := Aside0.mk (below_drew1 HB.out)
         refine start_ (n := 10) (S := fun w' => True) (ds := []) #[false, false, false, false, false, false, false, false, false, false] (by kernel_rfl) rfl rfl trivial (fun hHeld => ?_); refine with_tabW walkmilllaw04_TurnSlacks.tab10 walkmilllaw04_TurnSlacks.bits10 (fun HT_ HW_ => ?_)
         generalize wc.drew = w56 at HO_112000 HO_112001 BK101 BK102 BK111 HB hHeld ⊢
         refine pu 0 49 ?_
         refine pu 1 50 ?_
         refine pu 2 51 ?_
         refine pd 3 52 ?_
         refine pd 4 53 ?_
         refine pd 5 54 ?_
         refine pd 6 55 ?_
         refine pd 7 56 ?_
         refine pd 8 57 ?_
         refine pu 9 58 ?_
         refine done_ (done_of HT_.out (by kernel_rfl)) ?_
         try go_wp2
         go_meet
         case rel => exact ⟨_, (false), (by first | rfl | (simp; done) | (simp [*]; done)), H', ⟨by have := HJ17.out; have := HJ45.out; first | omega | exact Nat.le_refl _⟩, ⟨by (with_reducible repeat (first | apply Kd.R_alloc | apply Kd.R_drewN | apply Kd.R_drew)); exact HO_112000.out⟩, ⟨by (with_reducible repeat (first | apply Kd.R_alloc | apply Kd.R_drewN | apply Kd.R_drew)); exact HO_112001.out⟩, ⟨by (with_reducible repeat (first | refine blk_drewN ?_ _ | refine blk_drew ?_ | refine blk_alloc ?_ _)); exact BK101.out⟩, ⟨by (with_reducible repeat (first | refine blk_drewN ?_ _ | refine blk_drew ?_ | refine blk_alloc ?_ _)); exact BK102.out⟩, ⟨by (with_reducible repeat (first | refine blk_drewN ?_ _ | refine blk_drew ?_ | refine blk_alloc ?_ _)); exact BK111.out⟩, ⟨pE HB⟩⟩
       case rest =>
        clear HC48
        try clear c1
        try clear c2
        try clear p2
        try clear c3
        try clear c4
        try clear c5
        try clear p6
        try clear c9
        try clear c16
        try clear c17
        try clear c18
        try clear c21
        try clear c22
        try clear c24
        try clear c28
        try clear c32
        try clear c33
        try clear c41
        try clear c41b0
        try clear c41b1
        try clear c43
        try clear c44
        try clear c47
        try clear c49
        try clear c49b0
        try clear c49b1
        try clear hcz10_0
        try clear hcz10_1
        try clear hcz22_0
        try clear hcz22_1
        try clear hcz34_0
        try clear hcz34_1
        try clear hcz36_0
        try clear hcz36_1
        try clear hcz37_0
        try clear hcz37_1
        try clear hcz39_0
        try clear hcz39_1
        try clear hcz45_0
        try clear hcz45_1
        try clear hfz10_0
        try clear hfz10_1
        try clear hfz22_0
        try clear hfz22_1
        try clear hfz34_0
        try clear hfz34_1
        try clear hfz36_0
        try clear hfz36_1
        try clear hfz37_0
        try clear hfz37_1
        try clear hfz39_0
        try clear hfz39_1
        try clear hfz45_0
        try clear hfz45_1
        try clear p2
        try clear p6
        obtain ⟨kq, x58_47, rfl, HA, HJ47, HO_112000, HO_112001, BK101, BK102, BK111, HB⟩ := hcut
        cases kq with
        | zero => exact absurd HA.out (by simp [walkmilllaw04_TurnSlacks.j2])
        | succ kj47 =>
         have H := HA.out
         clear HA
         simp only [walkmilllaw04_TurnSlacks.j2] at H
         have HC57 := Aside0.mk H
         clear H
         go_upto_if 58 with (fail)
         go_cut [12] (fun v12 wc => ∃ (kq : Nat) (x12_56 : Int), v12 = .int .i64 x12_56 ∧ Aside0 (walkmilllaw04_TurnSlacks.j3 kq a1 a2_0 a2_1 t112 t113 x12_56 l0_0 l0_1 = some r) ∧ Aside0 (kq ≤ kj47) ∧ Aside0 (Kd.R k67 67 wc w.heap.size (fun _ => True) (.slice Ao28 t105.length co28) t105) ∧ Aside0 (Kd.R (Kd.int .i64) 3 wc w.heap.size (fun _ => True) (.slice Ao30 t108.length co30) t108) ∧ Aside0 (wc.heap[gb101]? = some (.cells #[(.slice A0_0 l0_0.length c0_0), (.slice A0_1 l0_1.length c0_1)] 25 (0, 0))) ∧ Aside0 (wc.heap[gb102]? = some (.cells #[.int .i64 a2_0, .int .i64 a2_1] 63 (0, 0))) ∧ Aside0 (wc.heap[gb111]? = some (.cells #[(.slice Ao28 t105.length co28), (.slice Ao30 t108.length co30)] 25 (0, 0))) ∧ Aside0 (Below w.heap.size w wc))
         case first =>
          have H := HC57.out
          clear HC57
          by_cases c58 : x58_47 = true
          ·subst c58
           rw [if_pos rfl] at H
           have H' := Aside0.mk H
           clear H
           go_wp2
           go_meet
           case rel => exact ⟨_, (9), (by first | rfl | (simp; done) | (simp [*]; done)), H', ⟨by have := HJ17.out; have := HJ45.out; have := HJ47.out; first | omega | exact Nat.le_refl _⟩, ⟨by (with_reducible repeat (first | apply Kd.R_alloc | apply Kd.R_drewN | apply Kd.R_drew)); exact HO_112000.out⟩, ⟨by (with_reducible repeat (first | apply Kd.R_alloc | apply Kd.R_drewN | apply Kd.R_drew)); exact HO_112001.out⟩, ⟨by (with_reducible repeat (first | refine blk_drewN ?_ _ | refine blk_drew ?_ | refine blk_alloc ?_ _)); exact BK101.out⟩, ⟨by (with_reducible repeat (first | refine blk_drewN ?_ _ | refine blk_drew ?_ | refine blk_alloc ?_ _)); exact BK102.out⟩, ⟨by (with_reducible repeat (first | refine blk_drewN ?_ _ | refine blk_drew ?_ | refine blk_alloc ?_ _)); exact BK111.out⟩, ⟨pE HB⟩⟩
          ·replace c58 := Bool.eq_false_iff.mpr c58
           subst c58
           rw [if_neg (show ¬ (false = true) by decide)] at H
           have H' := Aside0.mk H
           clear H
           go_wp2
           go_meet
           case rel => exact ⟨_, (x12_45), (by first | rfl | (simp; done) | (simp [*]; done)), H', ⟨by have := HJ17.out; have := HJ45.out; have := HJ47.out; first | omega | exact Nat.le_refl _⟩, ⟨by (with_reducible repeat (first | apply Kd.R_alloc | apply Kd.R_drewN | apply Kd.R_drew)); exact HO_112000.out⟩, ⟨by (with_reducible repeat (first | apply Kd.R_alloc | apply Kd.R_drewN | apply Kd.R_drew)); exact HO_112001.out⟩, ⟨by (with_reducible repeat (first | refine blk_drewN ?_ _ | refine blk_drew ?_ | refine blk_alloc ?_ _)); exact BK101.out⟩, ⟨by (with_reducible repeat (first | refine blk_drewN ?_ _ | refine blk_drew ?_ | refine blk_alloc ?_ _)); exact BK102.out⟩, ⟨by (with_reducible repeat (first | refine blk_drewN ?_ _ | refine blk_drew ?_ | refine blk_alloc ?_ _)); exact BK111.out⟩, ⟨pE HB⟩⟩
         case rest =>
          clear HC57
          try clear c1
          try clear c2
          try clear p2
          try clear c3
          try clear c4
          try clear c5
          try clear p6
          try clear c9
          try clear c16
          try clear c17
          try clear c18
          try clear c21
          try clear c22
          try clear c24
          try clear c28
          try clear c32
          try clear c33
          try clear c41
          try clear c41b0
          try clear c41b1
          try clear c43
          try clear c44
          try clear c47
          try clear c49
          try clear c49b0
          try clear c49b1
          try clear c58
          try clear hcz10_0
          try clear hcz10_1
          try clear hcz22_0
          try clear hcz22_1
          try clear hcz34_0
          try clear hcz34_1
          try clear hcz36_0
          try clear hcz36_1
          try clear hcz37_0
          try clear hcz37_1
          try clear hcz39_0
          try clear hcz39_1
          try clear hcz45_0
          try clear hcz45_1
          try clear hfz10_0
          try clear hfz10_1
          try clear hfz22_0
          try clear hfz22_1
          try clear hfz34_0
          try clear hfz34_1
          try clear hfz36_0
          try clear hfz36_1
          try clear hfz37_0
          try clear hfz37_1
          try clear hfz39_0
          try clear hfz39_1
          try clear hfz45_0
          try clear hfz45_1
          try clear p2
          try clear p6
          obtain ⟨kq, x12_56, rfl, HA, HJ56, HO_112000, HO_112001, BK101, BK102, BK111, HB⟩ := hcut
          cases kq with
          | zero => exact absurd HA.out (by simp [walkmilllaw04_TurnSlacks.j3])
          | succ kj56 =>
           have H := HA.out
           clear HA
           simp only [walkmilllaw04_TurnSlacks.j3] at H
           by_cases c59 : x12_56 = 0
           ·rw [if_pos c59] at H
            have c59b0 : (x12_56 == 0) = true := beq_iff_eq.mpr c59
            have c59b1 : (x12_56 != 0) = false := bne_eq_false_iff_eq.mpr c59
            clear c59
            by_cases c60 : t113 = 0
            ·rw [if_pos c60] at H
             have c60b0 : (t113 == 0) = true := beq_iff_eq.mpr c60
             have c60b1 : (t113 != 0) = false := bne_eq_false_iff_eq.mpr c60
             clear c60
             obtain ⟨t122, A61, H⟩ := bi H
             by_cases c62 : t112 = t122
             ·rw [if_pos c62] at H
              have c62b0 : (t112 == t122) = true := beq_iff_eq.mpr c62
              have c62b1 : (t112 != t122) = false := bne_eq_false_iff_eq.mpr c62
              clear c62
              obtain ⟨t123, A63, H⟩ := bi H
              obtain rfl := Option.some.inj H
              have hnb64 := NB101_102.out
              have hnc64 := NB102_101.out
              have hnb65 := NB101_111.out
              have hnc65 := NB111_101.out
              obtain ⟨_, _, _, _⟩ := cf2 BK101
              go_wp2_with (first | (go_at_call 45; (with_reducible refine (walkmillref04_Slack.calls kj56 _ _ l0_0 _ _ l0_1 a1 a2_0 a2_1 t122 _ ?side1 ?side2 ?side3 ?side4 A61.out).mono ?_); (case side1 => exact pC (Kd.C_below HR0_0.out HB.out)); (case side2 => exact HC0_0.out); (case side3 => exact pC (Kd.C_below HR0_1.out HB.out)); (case side4 => exact HC0_1.out); rintro e w67 ⟨rfl, hb⟩; replace HO_112000 := rb HO_112000 hb; replace HO_112001 := rb HO_112001 hb; replace BK101 := bb BK101 hb; replace BK102 := bb BK102 hb; replace BK111 := bb BK111 hb; replace HB := bs HB hb; (try clear hb); (try clear hb2); (try clear hk); (try clear hi)) | (go_at_call 17; (with_reducible refine (walkmilllaw04_known.calls  t123 _ A63.out).mono ?_); rintro e w68 ⟨rfl, hb⟩; replace HO_112000 := rb HO_112000 hb; replace HO_112001 := rb HO_112001 hb; replace BK101 := bb BK101 hb; replace BK102 := bb BK102 hb; replace BK111 := bb BK111 hb; replace HB := bs HB hb; (try clear hb); (try clear hb2); (try clear hk); (try clear hi)))
              go_ret
              exact ⟨eT, pE HB⟩
             ·rw [if_neg c62] at H
              have c62b0 : (t112 == t122) = false := beq_eq_false_iff_ne.mpr c62
              have c62b1 : (t112 != t122) = true := bne_iff_ne.mpr c62
              exact absurd ((Option.some.inj H).trans HRT.out) (by simp)
            ·rw [if_neg c60] at H
             have c60b0 : (t113 == 0) = false := beq_eq_false_iff_ne.mpr c60
             have c60b1 : (t113 != 0) = true := bne_iff_ne.mpr c60
             exact absurd ((Option.some.inj H).trans HRT.out) (by simp)
           ·rw [if_neg c59] at H
            have c59b0 : (x12_56 == 0) = false := beq_eq_false_iff_ne.mpr c59
            have c59b1 : (x12_56 != 0) = true := bne_iff_ne.mpr c59
            by_cases c69 : t113 = x12_56
            ·rw [if_pos c69] at H
             have c69b0 : (t113 == x12_56) = true := beq_iff_eq.mpr c69
             have c69b1 : (t113 != x12_56) = false := bne_eq_false_iff_eq.mpr c69
             clear c69
             by_cases c70 : t112 = 0
             ·rw [if_pos c70] at H
              have c70b0 : (t112 == 0) = true := beq_iff_eq.mpr c70
              have c70b1 : (t112 != 0) = false := bne_eq_false_iff_eq.mpr c70
              clear c70
              obtain ⟨t121, A71, H⟩ := bi H
              obtain rfl := Option.some.inj H
              go_wp2_with (first | (go_at_call 17; (with_reducible refine (walkmilllaw04_known.calls  t121 _ A71.out).mono ?_); rintro e w72 ⟨rfl, hb⟩; replace HO_112000 := rb HO_112000 hb; replace HO_112001 := rb HO_112001 hb; replace BK101 := bb BK101 hb; replace BK102 := bb BK102 hb; replace BK111 := bb BK111 hb; replace HB := bs HB hb; (try clear hb); (try clear hb2); (try clear hk); (try clear hi)))
              go_ret
              exact ⟨eT, pE HB⟩
             ·rw [if_neg c70] at H
              have c70b0 : (t112 == 0) = false := beq_eq_false_iff_ne.mpr c70
              have c70b1 : (t112 != 0) = true := bne_iff_ne.mpr c70
              exact absurd ((Option.some.inj H).trans HRT.out) (by simp)
            ·rw [if_neg c69] at H
             have c69b0 : (t113 == x12_56) = false := beq_eq_false_iff_ne.mpr c69
             have c69b1 : (t113 != x12_56) = true := bne_iff_ne.mpr c69
             exact absurd ((Option.some.inj H).trans HRT.out) (by simp)
  ·replace c16 := Bool.eq_false_iff.mpr c16
   subst c16
   rw [if_neg (show ¬ (false = true) by decide)] at H
   exact absurd ((Option.some.inj H).trans HRT.out) (by simp)
end Go.Proofs.YtlmglnobdcgbeaaGreat.P
namespace Go.Proofs.YtlmglnobdcgbeaaGreat.P
open Go.RowKit Go.Proofs.YtlmglnobdcgbeaaGreatW.PrintWords Go.Proofs.YtlmglnobdcgbeaaGreatW.PrintLast Go.Proofs.YtlmglnobdcgbeaaGreatW.PrintMore
theorem sl_j3e (k : Nat) (m L c e : Int) (he : e ≠ 0) (cl : List S67) (rk : List Int) : walkmilllaw04_TurnSlacks.j3 (k + 1) m L c 0 e e cl rk = some true := by
  rw [walkmilllaw04_TurnSlacks.j3, if_neg he, if_pos rfl, if_pos rfl]; rfl
theorem sl_j1e (k : Nat) (m L c e : Int) (he : e ≠ 0) (cl : List S67) (rk : List Int) : walkmilllaw04_TurnSlacks.j1 (k + 3) m L c 0 e e cl rk = some true := by
  rw [walkmilllaw04_TurnSlacks.j1, if_neg he, walkmilllaw04_TurnSlacks.j2, if_neg (by simp), sl_j3e k m L c e he]
theorem Slacks_k (cl : List S67) (rk : List Int) (M L C : Int) (k : Nat) (hk : 3000 < k) : walkmilllaw04_TurnSlacks.f k cl rk M L C = some true := by
  unfold walkmilllaw04_TurnSlacks.f
  rw [long_eq, Option.bind_some]
  by_cases hl : 20 < cl.length ∨ 10 < rk.length
  · have e : (decide (20 < cl.length) || decide (10 < rk.length)) = true := by simpa using hl
    rw [e, if_pos rfl]
    rfl
  have e : (decide (20 < cl.length) || decide (10 < rk.length)) = false := by simpa using hl
  rw [e, if_neg (by simp), copy_eq cl rk (by omega) (by omega), Option.bind_some]
  unfold turn_Slack.f
  rw [open_eq cl rk (by omega) M L k (by omega), Option.bind_some, rOpen_eq cl rk (by omega) (by omega) M L k (by omega), rSame_eq k cl rk (by omega) (by omega) (by omega)]
  simp only []
  obtain ⟨k, rfl⟩ : ∃ q, k = q + 4 := ⟨k - 4, by omega⟩
  generalize hE : (if chk cl rk = 0 then (if (isIn 1 5 M && isIn 0 500 L) = true then 0 else 3) else chk cl rk : Int) = E
  by_cases h : E = 0
  · subst h
    have hc : chk cl rk = 0 := by
      by_cases h : chk cl rk = 0
      · exact h
      · rw [if_neg h] at hE; exact hE
    have v := valid_of hc
    have s := st20_of hc
    have hb : (isIn 1 5 M && isIn 0 500 L) = true := by
      rw [if_pos hc] at hE
      by_cases h : (isIn 1 5 M && isIn 0 500 L) = true
      · exact h
      · rw [if_neg h] at hE; cases hE
    simp only [isIn, Bool.and_eq_true, decide_eq_true_eq] at hb
    obtain ⟨⟨hm1, hm2⟩, hL, -⟩ := hb
    obtain ⟨m, rfl⟩ : ∃ m : Nat, M = m := ⟨M.toNat, by omega⟩
    have h10 := v.c10
    have ew : wrap64 ((cl.length : Int) - 1) = (cl.length : Int) - 1 := w64_of (by omega) (by omega)
    rw [if_pos rfl, ew, within_eq, Option.bind_some]
    simp only [List.all_cons, List.all_nil, Bool.and_true]
    by_cases hC : isIn 0 ((cl.length : Int) - 1) C = true
    · simp only [isIn, Bool.and_eq_true, decide_eq_true_eq] at hC
      obtain ⟨c, rfl⟩ : ∃ c : Nat, C = c := ⟨C.toNat, by omega⟩
      have hcl : c < cl.length := by omega
      have hin : isIn 0 ((cl.length : Int) - 1) (c : Int) = true := by simp only [isIn, Bool.and_eq_true, decide_eq_true_eq]; omega
      have hmul : (m + 2) * (ordA cl rk).length ≤ 7 * 10 := Nat.mul_le_mul (by omega) (by rw [ordA_len]; omega)
      have hlt := late_eq cl rk (by omega) (ordA cl rk) (by rw [ordA_len]; omega) ordA_in m (by omega) (by omega) L hL
      rw [hin, if_pos rfl, dayOrder_eq v _ (by omega), Option.bind_some, isLate_eq cl rk _ ordA_in m (by omega) (by omega) L, Option.bind_some]
      have tail : ∀ (n e : Int), walkmilllaw04_TurnSlacks.j0 (k + 4) m L c n e 0 false cl rk = walkmilllaw04_TurnSlacks.j2 (k + 2) m L c n e 0 (lateB cl (ordA cl rk) m L) cl rk := fun n e => by
        rw [walkmilllaw04_TurnSlacks.j0, if_neg (by simp), walkmilllaw04_TurnSlacks.j1, if_pos rfl, rOrder_eq v _ (by omega), Option.bind_some, hlt _ (by omega), Option.bind_some]
      by_cases hq : lateB cl (ordA cl rk) m L = true
      · rw [if_pos hq, Option.bind_some, Option.bind_some, if_pos rfl, Option.bind_some, if_pos rfl, rIn_eq, hin, Option.bind_some]
        rw [show (!true) = false from rfl, tail, hq, walkmilllaw04_TurnSlacks.j2, if_pos rfl]
        exact sl_j3e k _ _ _ 9 (by omega) cl rk
      · have hq' : lateB cl (ordA cl rk) m L = false := by simpa using hq
        have h500 : ((500 : Nat) : Int) = 500 := rfl
        obtain ⟨r, e1, r1, r2, r3⟩ := search_l v s c hcl m (by omega) (by omega) L 500 0 500 (k + 4) (by omega) (by omega) (by omega) (by omega) (fun n hn => by omega) (fun h => by omega)
        obtain ⟨q, e2, q1, q2, q3⟩ := rSlack_l v s c hcl m (by omega) (by omega) L hL 500 0 k (by omega) (by omega) (fun n hn => by omega)
        have hrq := slack_uniq r1 q1 r2 r3 q2 q3
        subst hrq
        rw [show ((0 : Nat) : Int) = 0 from rfl] at e1 e2
        rw [h500] at e1
        rw [lng_zero v c hcl] at e2
        rw [if_neg hq, show sort_Search_at_turn_Slack_1.f (k + 4) 500 cl rk c m L = _ from e1, Option.bind_some, Option.bind_some, Option.bind_some, if_pos rfl, Option.bind_some, if_pos rfl, rIn_eq, hin, Option.bind_some]
        rw [show (!true) = false from rfl, tail, hq', walkmilllaw04_TurnSlacks.j2, if_neg (by simp), walkmilllaw04_TurnSlacks.j3, if_pos rfl, if_pos rfl]
        unfold walkmillref04_Slack.f
        rw [copy_eq cl rk (by omega) (by omega), Option.bind_some]
        rw [show walkmillref04_Slack.l0 k m L c 0 cl rk = _ from e2, Option.bind_some, if_pos rfl]; rfl
    · have hC' : isIn 0 ((cl.length : Int) - 1) C = false := by simpa using hC
      rw [hC', if_neg (by simp), Option.bind_some, Option.bind_some, if_pos rfl, Option.bind_some, if_pos rfl, rIn_eq, hC', Option.bind_some]
      rw [show (!false) = true from rfl, walkmilllaw04_TurnSlacks.j0, if_pos rfl]
      exact sl_j1e k _ _ _ 7 (by omega) cl rk
  · rw [if_neg h, Option.bind_some, Option.bind_some, if_pos rfl, Option.bind_some, if_neg h]
    rw [walkmilllaw04_TurnSlacks.j0, if_neg (by simp)]
    exact sl_j1e k _ _ _ E h cl rk
theorem TurnSlacks_yes (cl : List S67) (rk : List Int) (M L C : Int) : ∃ k, walkmilllaw04_TurnSlacks.f k cl rk M L C = some true := ⟨3001, Slacks_k cl rk M L C 3001 (by omega)⟩
end Go.Proofs.YtlmglnobdcgbeaaGreat.P
namespace Go.Proofs.YtlmglnobdcgbeaaGreat.P
open Go.RowKit Go.ChangeShapes Go.WideShapes Go.Deep Go.Proofs.YtlmglnobdcgbeaaGreatW.PrintWords Go.Proofs.YtlmglnobdcgbeaaGreatW.PrintLast Go.Proofs.YtlmglnobdcgbeaaGreatW.PrintMore
structure Opens {α : Type} (P : Program) (d : Kd α) (t : TypeId) (B : α → Prop) : Prop where
  sz : P.cellsOf t = d.sz
  op : ∀ (H : Type) (enc : TypeId × Value → H) (w : World) (base : Nat) (spare : Nat → Bool) (held : Bool) (n : Nat) (cs : List Value) (x : DataW H × List MemPlace), DataW.trod enc P w base spare held n t cs = some x → ∃ p, d.K w p cs ∧ B p
theorem Opens.int {P : Program} {t : TypeId} {k : IntKind} (ht : P.underlying t = some (.int k)) (hc : P.cellsOf t = 1) : Opens P (Kd.int k) t (fun n => (Lit.int k n).wf = true) :=
  ⟨hc, fun H enc w base spare held n cs x h => by
    obtain ⟨m, rfl, _, hw⟩ := DataW.trod_int ht h
    exact ⟨m, rfl, hw⟩⟩
theorem Opens.bool {P : Program} {t : TypeId} (ht : P.underlying t = some .bool) (hc : P.cellsOf t = 1) : Opens P Kd.bool t (fun _ => True) :=
  ⟨hc, fun H enc w base spare held n cs x h => by
    obtain ⟨b, rfl, _⟩ := DataW.trod_bool ht h
    exact ⟨b, rfl, trivial⟩⟩
theorem Opens.imp {α : Type} {P : Program} {d : Kd α} {t : TypeId} {B B' : α → Prop} (h : Opens P d t B) (hb : ∀ x, B x → B' x) : Opens P d t B' :=
  ⟨h.sz, fun H enc w base spare held n cs x hx => by obtain ⟨p, h1, h2⟩ := h.op H enc w base spare held n cs x hx; exact ⟨p, h1, hb p h2⟩⟩
theorem choose_list {α : Type} {Q : Nat → α → Prop} : ∀ (n : Nat), (∀ i, i < n → ∃ p, Q i p) → ∃ l : List α, l.length = n ∧ ∀ i p, l[i]? = some p → Q i p
  | 0, _ => ⟨[], rfl, fun i p h => by simp at h⟩
  | n + 1, h => by
    obtain ⟨l, hl, hq⟩ := choose_list n (fun i hi => h i (by omega))
    obtain ⟨p, hp⟩ := h n (by omega)
    refine ⟨l ++ [p], by simp [hl], fun i q hi => ?_⟩
    rcases Nat.lt_or_ge i l.length with h1 | h1
    · rw [List.getElem?_append_left h1] at hi
      exact hq i q hi
    · have : i = n := by
        have := (List.getElem?_eq_some_iff.1 hi).1
        simp at this
        omega
      subst this
      rw [List.getElem?_append_right h1, hl, Nat.sub_self] at hi
      obtain rfl : p = q := by simpa using hi
      exact hp
theorem Opens.slice {α : Type} {P : Program} {d : Kd α} {t e : TypeId} {B : α → Prop} (h : Opens P d e B) (ht : P.underlying t = some (.slice e)) (hc : P.cellsOf t = 1) : Opens P (Kd.slice e d) t (fun l => ∀ x ∈ l, B x) :=
  ⟨hc, fun H enc w base spare held n cs x hx => by
    rcases open_slice ht hx with ⟨rfl, _⟩ | ⟨a, len, cap, m, n', D, Pl, rfl, hb, hl, hm, hmm, _, hi⟩
    · exact ⟨[], ⟨none, 0, rfl, Nat.le_refl _, Kd.C_nil _ _⟩, fun x hx => by cases hx⟩
    · obtain ⟨l, hll, hq⟩ := choose_list (Q := fun i p => (∃ cs', d.K w p cs' ∧ ∀ j, j < d.sz → w.cell? (a.add (i * d.sz + j)) = cs'[j]?) ∧ B p) len (fun i hi' => by
        obtain ⟨cs', hcs, htr⟩ := hi i (by rw [hmm]; split <;> omega)
        obtain ⟨p, hk, hp⟩ := h.op H enc w base spare held n' cs' _ htr
        obtain ⟨_, hcl, hat⟩ := World.cells?_some hcs
        rw [h.sz] at hat
        exact ⟨p, ⟨cs', hk, fun j hj => by
          have := hat j hj
          rw [Go.Deep.add_add] at this
          exact this⟩, hp⟩)
      refine ⟨l, ⟨some a, cap, by rw [hll], by rw [hll]; exact hl, ⟨rfl, by rw [hll]; simp only [maxLen] at hm; omega, fun h0 => ⟨a, rfl, fun j p hj => ?_⟩⟩⟩, fun x hx => ?_⟩
      · obtain ⟨⟨cs', hk, hat⟩, _⟩ := hq j p hj
        refine ⟨cs', d.K_len hk, hk, fun i u hu => ?_⟩
        have hi' : i < d.sz := by have := (List.getElem?_eq_some_iff.1 hu).1; rw [d.K_len hk] at this; exact this
        rw [hat i hi', hu]
      · obtain ⟨i, hi'⟩ := List.getElem?_of_mem hx
        exact (hq i x hi').2⟩
def OpensS {α : Type} (P : Program) (fs : Array Field) (j off : Nat) (d : Kd α) (B : α → Prop) : Prop :=
  ∀ (H : Type) (enc : TypeId × Value → H) (w : World) (base : Nat) (spare : Nat → Bool) (held : Bool) (n : Nat) (cs : List Value) (xs : List (DataW H × List MemPlace)), xs.length = fs.size →
    (∀ (i : Nat) (f : Field), fs[i]? = some f → DataW.trod enc P w base spare held n f.type ((cs.drop f.offset).take (P.cellsOf f.type)) = xs[i]?) → ∃ p, d.K w p ((cs.drop off).take d.sz) ∧ B p
theorem OpensS.one {α : Type} {P : Program} {fs : Array Field} {j off : Nat} {d : Kd α} {B : α → Prop} (f : Field) (hf : fs[j]? = some f) (ho : f.offset = off) (h : Opens P d f.type B) : OpensS P fs j off d B := by
  intro H enc w base spare held n cs xs hl hx
  have h1 := hx j f hf
  have hj : j < xs.length := by rw [hl]; exact (Array.getElem?_eq_some_iff.1 hf).1
  rw [List.getElem?_eq_getElem hj, ho, h.sz] at h1
  exact h.op H enc w base spare held n _ _ h1
theorem OpensS.cons {α β : Type} {P : Program} {fs : Array Field} {j off : Nat} {d : Kd α} {d' : Kd β} {B : α → Prop} {B' : β → Prop} (h : OpensS P fs j off d B) (h' : OpensS P fs (j + 1) (off + d.sz) d' B') : OpensS P fs j off (Kd.pair d d') (fun p => B p.1 ∧ B' p.2) := by
  intro H enc w base spare held n cs xs hl hx
  obtain ⟨p, h1, h2⟩ := h H enc w base spare held n cs xs hl hx
  obtain ⟨q, h3, h4⟩ := h' H enc w base spare held n cs xs hl hx
  refine ⟨(p, q), ⟨_, _, ?_, h1, h3⟩, h2, h4⟩
  show (cs.drop off).take (d.sz + d'.sz) = _
  rw [List.take_add, List.drop_drop]
theorem OpensS.iso {α β : Type} {P : Program} {fs : Array Field} {j off : Nat} {d : Kd α} {B : α → Prop} (h : OpensS P fs j off d B) (f : β → α) (g : α → β) (hg : ∀ a, f (g a) = a) : OpensS P fs j off (Kd.iso d f) (fun y => B (f y)) := by
  intro H enc w base spare held n cs xs hl hx
  obtain ⟨p, h1, h2⟩ := h H enc w base spare held n cs xs hl hx
  exact ⟨g p, by show d.K w (f (g p)) _; rw [hg]; exact h1, by show B (f (g p)); rw [hg]; exact h2⟩
theorem Opens.struct {α : Type} {P : Program} {fs : Array Field} {d : Kd α} {t : TypeId} {B : α → Prop} (h : OpensS P fs 0 0 d B) (ht : P.underlying t = some (.struct fs)) (hc : P.cellsOf t = d.sz) : Opens P d t B :=
  ⟨hc, fun H enc w base spare held n cs x hx => by
    obtain ⟨xs, n', _, _, hcl, hl, hf⟩ := DataW.trod_struct ht hx
    obtain ⟨p, h1, h2⟩ := h H enc w base spare held n' cs xs hl hf
    refine ⟨p, ?_, h2⟩
    rw [List.drop_zero, List.take_of_length_le (by rw [hcl, hc]; exact Nat.le_refl _)] at h1
    exact h1⟩
theorem Opens.array {α : Type} {P : Program} {fs : Array Field} {d : Kd α} {t e : TypeId} {n : Nat} {B : α → Prop} (h : OpensS P fs 0 0 d B) (ht : P.underlying t = some (.array n e)) (hc : P.cellsOf t = d.sz) (he : P.cellsOf e = 1) (hn : fs.size = n) (hf : ∀ i : Fin fs.size, fs[i].type = e ∧ fs[i].offset = i.val) : Opens P d t B :=
  ⟨hc, fun H enc w base spare held n' cs x hx => by
    obtain ⟨xs, m, _, _, hcl, hl, hg⟩ := DataW.trod_array ht hx
    obtain ⟨p, h1, h2⟩ := h H enc w base spare held m cs xs (by rw [hl, hn]) (fun i f hi => by
      obtain ⟨hi', rfl⟩ := Array.getElem?_eq_some_iff.1 hi
      obtain ⟨e1, e2⟩ := hf ⟨i, hi'⟩
      have e1' : fs[i].type = e := e1
      have e2' : fs[i].offset = i := e2
      have := hg i (by rw [← hn]; exact hi')
      rw [he, Nat.mul_one] at this
      rw [e1', e2', he]; exact this)
    refine ⟨p, ?_, h2⟩
    rw [List.drop_zero, List.take_of_length_le (by rw [hcl, hc]; exact Nat.le_refl _)] at h1
    exact h1⟩
theorem Opens.arg {α : Type} {P : Program} {d : Kd α} {t : TypeId} {B : α → Prop} (h : Opens P d t B) {H : Type} {enc : TypeId × Value → H} {w : World} {base : Nat} {spare : Nat → Bool} {held : Bool} {v : Value} {x : DataW H} {ps : List MemPlace} (hx : DataW.Trod enc P w base spare held t v x ps) :
    ∃ p : α, d.K w p v.cells.toList ∧ B p := by
  obtain ⟨n, hn⟩ := hx
  exact h.op H enc w base spare held n _ _ hn
theorem agg_cells {v : Value} {l : List Value} (h : v.cells.toList = l) (hl : 2 ≤ l.length) : v = .agg l.toArray := by
  cases v with
  | agg x => simp only [Value.cells] at h; rw [← h]
  | _ => simp only [Value.cells] at h; subst h; simp at hl
end Go.Proofs.YtlmglnobdcgbeaaGreat.P
namespace Go.Proofs.YtlmglnobdcgbeaaGreat.P
open Go.RowKit Go.Proofs.YtlmglnobdcgbeaaGreatW.PrintWords
def IsK (k : IntKind) (n : Int) : Prop := (Lit.int k n).wf = true
theorem O_i64 : Opens Tryz.prog (Kd.int .i64) 3 (IsK .i64) := Opens.int Tryz.underlying3 (by kernel_rfl)
def B42 (x : S42) : Prop := (IsK .i64) x.f0 ∧ (IsK .i64) x.f1
theorem O42 : Opens Tryz.prog k42 42 B42 := by
  refine Opens.struct ?_ Tryz.underlying42 (by kernel_rfl)
  refine OpensS.iso (d := (Kd.pair (Kd.int .i64) (Kd.int .i64))) (B := fun p => (IsK .i64) p.1 ∧ (IsK .i64) p.2) ?_ (fun x : S42 => (x.f0, x.f1)) (fun p => ⟨p.1, p.2⟩) (fun _ => rfl)
  refine OpensS.cons (B := IsK .i64) (B' := fun p : Int => (IsK .i64) p) ?_ ?_
  · exact OpensS.one _ rfl rfl O_i64
  exact OpensS.one _ rfl rfl O_i64
def B67 (x : S67) : Prop := (IsK .i64) x.f0 ∧ (IsK .i64) x.f1 ∧ (B42) x.f2
theorem O67 : Opens Tryz.prog k67 67 B67 := by
  refine Opens.struct ?_ Tryz.underlying67 (by kernel_rfl)
  refine OpensS.iso (d := (Kd.pair (Kd.int .i64) (Kd.pair (Kd.int .i64) k42))) (B := fun p => (IsK .i64) p.1 ∧ (IsK .i64) p.2.1 ∧ (B42) p.2.2) ?_ (fun x : S67 => (x.f0, x.f1, x.f2)) (fun p => ⟨p.1, p.2.1, p.2.2⟩) (fun _ => rfl)
  refine OpensS.cons (B := IsK .i64) (B' := fun p : Int × S42 => (IsK .i64) p.1 ∧ (B42) p.2) ?_ ?_
  · exact OpensS.one _ rfl rfl O_i64
  refine OpensS.cons (B := IsK .i64) (B' := fun p : S42 => (B42) p) ?_ ?_
  · exact OpensS.one _ rfl rfl O_i64
  exact OpensS.one _ rfl rfl O42
def B25 (x : S25) : Prop := (fun l => ∀ x ∈ l, (B67) x) x.f0 ∧ (fun l => ∀ x ∈ l, (IsK .i64) x) x.f1
theorem O25 : Opens Tryz.prog k25 25 B25 := by
  refine Opens.struct ?_ Tryz.underlying25 (by kernel_rfl)
  refine OpensS.iso (d := (Kd.pair (Kd.slice 67 k67) (Kd.slice 3 (Kd.int .i64)))) (B := fun p => (fun l => ∀ x ∈ l, (B67) x) p.1 ∧ (fun l => ∀ x ∈ l, (IsK .i64) x) p.2) ?_ (fun x : S25 => (x.f0, x.f1)) (fun p => ⟨p.1, p.2⟩) (fun _ => rfl)
  refine OpensS.cons (B := fun l => ∀ x ∈ l, (B67) x) (B' := fun p : (List Int) => (fun l => ∀ x ∈ l, (IsK .i64) x) p) ?_ ?_
  · exact OpensS.one _ rfl rfl (Opens.slice O67 Tryz.underlying22 (by kernel_rfl))
  exact OpensS.one _ rfl rfl (Opens.slice O_i64 Tryz.underlying23 (by kernel_rfl))
def B63 (x : S63) : Prop := (IsK .i64) x.f0 ∧ (IsK .i64) x.f1
theorem O63 : Opens Tryz.prog k63 63 B63 := by
  refine Opens.array (fs := #[⟨"", 3, 0, false, "", "", 0⟩, ⟨"", 3, 1, false, "", "", 0⟩]) ?_ Tryz.underlying63 (by kernel_rfl) (by kernel_rfl) rfl (by decide)
  refine OpensS.iso (d := (Kd.pair (Kd.int .i64) (Kd.int .i64))) (B := fun p => (IsK .i64) p.1 ∧ (IsK .i64) p.2) ?_ (fun x : S63 => (x.f0, x.f1)) (fun p => ⟨p.1, p.2⟩) (fun _ => rfl)
  refine OpensS.cons (B := IsK .i64) (B' := fun p : Int => (IsK .i64) p) ?_ ?_
  · exact OpensS.one _ rfl rfl O_i64
  exact OpensS.one _ rfl rfl O_i64
end Go.Proofs.YtlmglnobdcgbeaaGreat.P
