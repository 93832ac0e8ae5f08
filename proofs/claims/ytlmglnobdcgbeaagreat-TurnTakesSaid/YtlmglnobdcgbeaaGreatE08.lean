/- Part 8 of what the law's proof needs: words, walks of functions and plain facts. -/
import Derived.Deep.Slices
import Derived.OpenShut
import Derived.ChangeArms
import Derived.Test.YtlmglnobdcgbeaaGreatE01
import Derived.Test.YtlmglnobdcgbeaaGreatE03
import Derived.Test.YtlmglnobdcgbeaaGreatE04
import Derived.Test.YtlmglnobdcgbeaaGreatE05
import Derived.Test.YtlmglnobdcgbeaaGreatE07
set_option linter.unusedVariables false
set_option linter.unusedSimpArgs false
namespace Go.Proofs.YtlmglnobdcgbeaaGreat.P
open Go.RowKit Go.Proofs.YtlmglnobdcgbeaaGreatW.PrintWords Go.Proofs.YtlmglnobdcgbeaaGreatW.PrintLast Go.Proofs.YtlmglnobdcgbeaaGreatW.PrintMore
attribute [local go_sem] max2_int min2_int max_two min_two max_three min_three max_four min_four
attribute [local go_sem high] eqA42
def walkmilllaw04_TurnTakes.j0 : Nat → Int → Int → Int → Int → Bool → List (S67) → List Int → Option (Bool)
 | 0, _, _, _, _, _, _, _ => none
 | k + 1, x1, x8, x9, x10, x103, x102000, x102001 => if x103 = true then (some false) else ((walkmillref04_Order.f k x102000 x102001).bind fun t131 => ((walkmillref04_Worst.f k x102000 x102001 t131 x1).bind fun bt134 => (if bt134.1 < 0 then (if x10 = 7 then (if x8 = 0 then (if x9 = 0 then ((walkmilllaw04_known.f).bind fun t136 => (some t136)) else (some false)) else (some false)) else (some false)) else (if x10 = 0 then (if x8 = bt134.1 then (if x9 = bt134.2 then ((walkmilllaw04_known.f).bind fun t137 => (some t137)) else (some false)) else (some false)) else (some false)))))
def walkmilllaw04_TurnTakes.f (k : Nat) (l0_0 : List (S67)) (l0_1 : List Int) (a1 : Int) : Option (Bool) := (walkmilllaw04_long.f l0_0 l0_1).bind fun t102 => (if t102 = true then ((walkmilllaw04_known.f).bind fun t103 => (some t103)) else ((walkmillref04_Copy.f l0_0 l0_1).bind fun bt104 => ((turn_Starts.f k bt104.1 bt104.2 a1).bind fun bt111 => ((turn_Waits.f k bt104.1 bt104.2 a1).bind fun bt115 => ((turn_Ends.f k bt104.1 bt104.2 a1).bind fun bt118 => ((walkmillref04_Same.f k bt104.1 bt104.2 l0_0 l0_1).bind fun t122 => (if t122 = true then ((walkmillref04_Open.f k l0_0 l0_1 a1 0).bind fun t123 => (if t123 = 0 then (if bt111.2 = 0 then (if bt118.2.2 = 0 then ((walkmillref04_Starts.f k l0_0 l0_1 a1).bind fun t125 => ((walkmillref04_Spans.f k bt111.1 t125).bind fun t128 => (if t128 = true then ((walkmillref04_Ends.f k l0_0 l0_1 a1).bind fun bt129 => (walkmilllaw04_TurnTakes.j0 k a1 bt115.1 bt115.2.1 bt115.2.2 (!(bt118.1 == bt129.1) || (!(bt118.2.1 == bt129.2))) l0_0 l0_1)) else (walkmilllaw04_TurnTakes.j0 k a1 bt115.1 bt115.2.1 bt115.2.2 true l0_0 l0_1)))) else (walkmilllaw04_TurnTakes.j0 k a1 bt115.1 bt115.2.1 bt115.2.2 true l0_0 l0_1)) else (walkmilllaw04_TurnTakes.j0 k a1 bt115.1 bt115.2.1 bt115.2.2 true l0_0 l0_1)) else (if bt111.2 = t123 then (if bt115.2.2 = t123 then (if bt118.2.2 = t123 then (if (bt111.1.length : Int) = 0 then (if bt115.1 = 0 then (if bt115.2.1 = 0 then (if (bt118.1 == 0 && (bt118.2.1 == 0)) = true then ((walkmilllaw04_known.f).bind fun t124 => (some t124)) else (some false)) else (some false)) else (some false)) else (some false)) else (some false)) else (some false)) else (some false)))) else (some false))))))))
theorem walkmilllaw04_TurnTakes.mono_l : ∀ k, (∀ y0 y1 y2 y3 y4 y5 y6, LeO (walkmilllaw04_TurnTakes.j0 k y0 y1 y2 y3 y4 y5 y6) (walkmilllaw04_TurnTakes.j0 (k + 1) y0 y1 y2 y3 y4 y5 y6))
 | 0 => fun _ _ _ _ _ _ _ r h => by simp [walkmilllaw04_TurnTakes.j0] at h
 | k + 1 => by
  have ih0 := walkmilllaw04_TurnTakes.mono_l k
  ·intro y0 y1 y2 y3 y4 y5 y6
   unfold walkmilllaw04_TurnTakes.j0
   repeat' first
   | (with_reducible exact ih0 _ _ _ _ _ _ _)
   | (with_reducible exact turn_Ends.mono _ _ _ _)
   | (with_reducible exact turn_Starts.mono _ _ _ _)
   | (with_reducible exact turn_Waits.mono _ _ _ _)
   | (with_reducible exact walkmillref04_Ends.mono _ _ _ _)
   | (with_reducible exact walkmillref04_Open.mono _ _ _ _ _)
   | (with_reducible exact walkmillref04_Order.mono _ _ _)
   | (with_reducible exact walkmillref04_Same.mono _ _ _ _ _)
   | (with_reducible exact walkmillref04_Spans.mono _ _ _)
   | (with_reducible exact walkmillref04_Starts.mono _ _ _ _)
   | (with_reducible exact walkmillref04_Worst.mono _ _ _ _ _)
   | (with_reducible exact LeO.refl _)
   | (with_reducible exact LeO.none _)
   | (with_reducible refine LeO.ite ?_ ?_)
   | (with_reducible refine LeO.bind ?_ (fun _ => ?_))
   | exact ih0 _ _ _ _ _ _ _
   | exact turn_Ends.mono _ _ _ _
   | exact turn_Starts.mono _ _ _ _
   | exact turn_Waits.mono _ _ _ _
   | exact walkmillref04_Ends.mono _ _ _ _
   | exact walkmillref04_Open.mono _ _ _ _ _
   | exact walkmillref04_Order.mono _ _ _
   | exact walkmillref04_Same.mono _ _ _ _ _
   | exact walkmillref04_Spans.mono _ _ _
   | exact walkmillref04_Starts.mono _ _ _ _
   | exact walkmillref04_Worst.mono _ _ _ _ _
   | exact LeO.none _
   | refine LeO.ite ?_ ?_
   | refine LeO.bind ?_ (fun _ => ?_)
theorem walkmilllaw04_TurnTakes.dead_j0 : ∀ k y0 y1 y2 y3 y5 y6 r, walkmilllaw04_TurnTakes.j0 k y0 y1 y2 y3 true y5 y6 = some r → r = true → False := by
 intro k y0 y1 y2 y3 y5 y6 r h hr
 cases k with
 | zero => simp [walkmilllaw04_TurnTakes.j0] at h
 | succ k => exact absurd ((Option.some.inj (show (some false : Option Bool) = some r from h)).trans hr) (by simp)
theorem walkmilllaw04_TurnTakes.mono : ∀ a0 a1 a2 k, LeO (walkmilllaw04_TurnTakes.f k a0 a1 a2) (walkmilllaw04_TurnTakes.f (k + 1) a0 a1 a2) := by
 intro a0 a1 a2 k
 have ih0 := walkmilllaw04_TurnTakes.mono_l k
 unfold walkmilllaw04_TurnTakes.f
 repeat' first
   | (with_reducible exact ih0 _ _ _ _ _ _ _)
   | (with_reducible exact turn_Ends.mono _ _ _ _)
   | (with_reducible exact turn_Starts.mono _ _ _ _)
   | (with_reducible exact turn_Waits.mono _ _ _ _)
   | (with_reducible exact walkmillref04_Ends.mono _ _ _ _)
   | (with_reducible exact walkmillref04_Open.mono _ _ _ _ _)
   | (with_reducible exact walkmillref04_Order.mono _ _ _)
   | (with_reducible exact walkmillref04_Same.mono _ _ _ _ _)
   | (with_reducible exact walkmillref04_Spans.mono _ _ _)
   | (with_reducible exact walkmillref04_Starts.mono _ _ _ _)
   | (with_reducible exact walkmillref04_Worst.mono _ _ _ _ _)
   | (with_reducible exact LeO.refl _)
   | (with_reducible exact LeO.none _)
   | (with_reducible refine LeO.ite ?_ ?_)
   | (with_reducible refine LeO.bind ?_ (fun _ => ?_))
   | exact ih0 _ _ _ _ _ _ _
   | exact turn_Ends.mono _ _ _ _
   | exact turn_Starts.mono _ _ _ _
   | exact turn_Waits.mono _ _ _ _
   | exact walkmillref04_Ends.mono _ _ _ _
   | exact walkmillref04_Open.mono _ _ _ _ _
   | exact walkmillref04_Order.mono _ _ _
   | exact walkmillref04_Same.mono _ _ _ _ _
   | exact walkmillref04_Spans.mono _ _ _
   | exact walkmillref04_Starts.mono _ _ _ _
   | exact walkmillref04_Worst.mono _ _ _ _ _
   | exact LeO.none _
   | refine LeO.ite ?_ ?_
   | refine LeO.bind ?_ (fun _ => ?_)
def walkmilllaw04_TurnTakes.T12 : Bool × List (List Nat × List Nat) := (true, [([], []), ([0], [0]), ([1], [1]), ([2], [2]), ([3, 2], [2, 3]), ([2, 4], [2, 4]), ([5, 2], [5]), ([6], [6]), ([6], [6]), ([6], [6]), ([8, 9, 6, 6], [6, 8, 9]), ([7, 10, 10, 6], [6, 7, 10]), ([11, 6], [6, 11]), ([6, 12], [6, 12]), ([13, 11], [13]), ([14], [14]), ([14], [14]), ([14], [14]), ([16, 17, 14, 14], [14, 16, 17]), ([15, 18, 14], [14, 15, 18]), ([14, 19], [14, 19])])
def walkmilllaw04_TurnTakes.B12 : List Nat := [0, 1, 3, 7, 15, 31, 63, 127, 127, 127, 895, 2047, 4095, 8191, 16383, 32767, 32767, 32767, 229375, 524287, 1048575]
theorem walkmilllaw04_TurnTakes.tab12 : rtab .any (opsOf Tryz.f4 12) = walkmilllaw04_TurnTakes.T12 := by kernel_rfl
theorem walkmilllaw04_TurnTakes.bits12 : waitsOk walkmilllaw04_TurnTakes.T12.2 walkmilllaw04_TurnTakes.B12 = true := by kernel_rfl
def walkmilllaw04_TurnTakes.T14 : Bool × List (List Nat × List Nat) := (true, [([], []), ([], []), ([1], [1]), ([], []), ([0, 2, 3, 2], [0, 2, 3]), ([4], [4]), ([5], [5]), ([5], [5]), ([6, 4, 0, 1, 2, 3, 4, 5, 6], [6]), ([7, 8, 0, 1, 2, 3, 4, 5, 6, 7, 8], [7])])
def walkmilllaw04_TurnTakes.B14 : List Nat := [0, 0, 2, 0, 15, 31, 63, 63, 127, 511]
theorem walkmilllaw04_TurnTakes.tab14 : rtab .any (opsOf Tryz.f4 14) = walkmilllaw04_TurnTakes.T14 := by kernel_rfl
theorem walkmilllaw04_TurnTakes.bits14 : waitsOk walkmilllaw04_TurnTakes.T14.2 walkmilllaw04_TurnTakes.B14 = true := by kernel_rfl
set_option maxHeartbeats 8000000 in
set_option maxRecDepth 100000 in
theorem walkmilllaw04_TurnTakes.calls_true (k : Nat) (A0_0 : Option Addr) (c0_0 : Nat) (l0_0 : List (S67)) (A0_1 : Option Addr) (c0_1 : Nat) (l0_1 : List Int) (a1 : Int) (r : Bool) (w : World) (hr0_0 : Kd.C k67 w A0_0 l0_0.length l0_0) (hc0_0 : l0_0.length ≤ c0_0) (hr0_1 : Kd.C (Kd.int .i64) w A0_1 l0_1.length l0_1) (hc0_1 : l0_1.length ≤ c0_1) (hrt : r = true) (h : walkmilllaw04_TurnTakes.f k l0_0 l0_1 a1 = some r) :
  Calls Tryz.prog 4 #[.agg #[.slice A0_0 l0_0.length c0_0, .slice A0_1 l0_1.length c0_1], .int .i64 a1] w fun e w' => e = .returned (.bool r) ∧ Below w.heap.size w w' := by
 have hu25 := Tryz.underlying25
 have hu42 := Tryz.underlying42
 have HRT := Aside0.mk hrt
 clear hrt
 have HR0_0 := Aside0.mk hr0_0
 have HC0_0 := Aside0.mk hc0_0
 clear hr0_0 hc0_0
 have HR0_1 := Aside0.mk hr0_1
 have HC0_1 := Aside0.mk hc0_1
 clear hr0_1 hc0_1
 have HB := Aside0.mk (Below.refl w.heap.size w)
 have H : ((walkmilllaw04_long.f l0_0 l0_1).bind fun t102 => (if t102 = true then ((walkmilllaw04_known.f).bind fun t103 => (some t103)) else ((walkmillref04_Copy.f l0_0 l0_1).bind fun bt104 => ((turn_Starts.f k bt104.1 bt104.2 a1).bind fun bt111 => ((turn_Waits.f k bt104.1 bt104.2 a1).bind fun bt115 => ((turn_Ends.f k bt104.1 bt104.2 a1).bind fun bt118 => ((walkmillref04_Same.f k bt104.1 bt104.2 l0_0 l0_1).bind fun t122 => (if t122 = true then ((walkmillref04_Open.f k l0_0 l0_1 a1 0).bind fun t123 => (if t123 = 0 then (if bt111.2 = 0 then (if bt118.2.2 = 0 then ((walkmillref04_Starts.f k l0_0 l0_1 a1).bind fun t125 => ((walkmillref04_Spans.f k bt111.1 t125).bind fun t128 => (if t128 = true then ((walkmillref04_Ends.f k l0_0 l0_1 a1).bind fun bt129 => (walkmilllaw04_TurnTakes.j0 k a1 bt115.1 bt115.2.1 bt115.2.2 (!(bt118.1 == bt129.1) || (!(bt118.2.1 == bt129.2))) l0_0 l0_1)) else (walkmilllaw04_TurnTakes.j0 k a1 bt115.1 bt115.2.1 bt115.2.2 true l0_0 l0_1)))) else (walkmilllaw04_TurnTakes.j0 k a1 bt115.1 bt115.2.1 bt115.2.2 true l0_0 l0_1)) else (walkmilllaw04_TurnTakes.j0 k a1 bt115.1 bt115.2.1 bt115.2.2 true l0_0 l0_1)) else (if bt111.2 = t123 then (if bt115.2.2 = t123 then (if bt118.2.2 = t123 then (if (bt111.1.length : Int) = 0 then (if bt115.1 = 0 then (if bt115.2.1 = 0 then (if (bt118.1 == 0 && (bt118.2.1 == 0)) = true then ((walkmilllaw04_known.f).bind fun t124 => (some t124)) else (some false)) else (some false)) else (some false)) else (some false)) else (some false)) else (some false)) else (some false)))) else (some false))))))))) = some r := h
 clear h
 obtain ⟨t102, A3, H⟩ := bi H
 by_cases c4 : t102 = true
 ·subst c4
  rw [if_pos rfl] at H
  obtain ⟨t103, A5, H⟩ := bi H
  obtain rfl := Option.some.inj H
  go_enter Tryz.func4, Tryz.ntmps4
  go_wp2_with (first | ((with_reducible refine gate_dst (N := 2) rfl ?_); (try (refine gate_guard (by rfl) ?_; dsimp only)); refine bx 2 #[.slice A0_0 l0_0.length c0_0, .slice A0_1 l0_1.length c0_1] 25 ?_; intro gb101 hg w6 hbox hb; have BK101 := hbox; have GW101 := gs HB hg; have GE101 := gs HB hg; replace HB := bs HB hb; clear hb hbox hg; obtain ⟨hcz7_0, hcz7_1, hfz7_0, hfz7_1⟩ := cf2 BK101) | ((with_reducible refine gc 16 rfl ?_); refine gL 17 Tryz.func16 #[.agg #[.slice A0_0 l0_0.length c0_0, .slice A0_1 l0_1.length c0_1]] ?_; (with_reducible refine (walkmilllaw04_long.calls _ _ l0_0 _ _ l0_1 true _ ?side1 ?side2 ?side3 ?side4 A3.out).mono ?_); (case side1 => exact pC (Kd.C_below HR0_0.out HB.out)); (case side2 => exact HC0_0.out); (case side3 => exact pC (Kd.C_below HR0_1.out HB.out)); (case side4 => exact HC0_1.out); rintro e w8 ⟨rfl, hb⟩; refine ⟨_, rfl, ?_⟩; replace BK101 := bb BK101 hb; replace HB := bs HB hb; clear hb) | ((with_reducible refine gc 17 rfl ?_); refine gL 18 Tryz.func17 #[] ?_; (with_reducible refine (walkmilllaw04_known.calls  t103 _ A5.out).mono ?_); rintro e w9 ⟨rfl, hb⟩; refine ⟨_, rfl, ?_⟩; replace BK101 := bb BK101 hb; replace HB := bs HB hb; clear hb))
  go_ret
  exact ⟨eT, pE HB⟩
 ·replace c4 := Bool.eq_false_iff.mpr c4
  subst c4
  rw [if_neg (show ¬ (false = true) by decide)] at H
  obtain ⟨⟨t104, t107⟩, A10, H⟩ := bi H
  obtain ⟨⟨t111, t114⟩, A11, H⟩ := bi H
  obtain ⟨⟨t115, t116, t117⟩, A12, H⟩ := bi H
  obtain ⟨⟨t118, t119, t120⟩, A13, H⟩ := bi H
  obtain ⟨t122, A14, H⟩ := bi H
  by_cases c15 : t122 = true
  ·subst c15
   rw [if_pos rfl] at H
   obtain ⟨t123, A16, H⟩ := bi H
   by_cases c17 : t123 = 0
   ·rw [if_pos c17] at H
    have c17b0 : (t123 == 0) = true := beq_iff_eq.mpr c17
    have c17b1 : (t123 != 0) = false := bne_eq_false_iff_eq.mpr c17
    clear c17
    have HC18 := Aside0.mk H
    clear H
    go_enter Tryz.func4, Tryz.ntmps4
    go_upto_region 12 with (first | ((with_reducible refine gate_dst (N := 2) rfl ?_); (try (refine gate_guard (by rfl) ?_; dsimp only)); refine bx 2 #[.slice A0_0 l0_0.length c0_0, .slice A0_1 l0_1.length c0_1] 25 ?_; intro gb101 hg w19 hbox hb; have BK101 := hbox; have GW101 := gs HB hg; have GE101 := gs HB hg; replace HB := bs HB hb; clear hb hbox hg; obtain ⟨hcz20_0, hcz20_1, hfz20_0, hfz20_1⟩ := cf2 BK101) | ((with_reducible refine gc 16 rfl ?_); refine gL 17 Tryz.func16 #[.agg #[.slice A0_0 l0_0.length c0_0, .slice A0_1 l0_1.length c0_1]] ?_; (with_reducible refine (walkmilllaw04_long.calls _ _ l0_0 _ _ l0_1 false _ ?side1 ?side2 ?side3 ?side4 A3.out).mono ?_); (case side1 => exact pC (Kd.C_below HR0_0.out HB.out)); (case side2 => exact HC0_0.out); (case side3 => exact pC (Kd.C_below HR0_1.out HB.out)); (case side4 => exact HC0_1.out); rintro e w21 ⟨rfl, hb⟩; refine ⟨_, rfl, ?_⟩; replace BK101 := bb BK101 hb; replace HB := bs HB hb; clear hb; obtain ⟨hcz22_0, hcz22_1, hfz22_0, hfz22_1⟩ := cf2 BK101) | ((with_reducible refine gc 18 rfl ?_); refine gL 20 Tryz.func18 #[.agg #[.slice A0_0 l0_0.length c0_0, .slice A0_1 l0_1.length c0_1]] ?_; (with_reducible refine (walkmillref04_Copy.calls _ _ l0_0 _ _ l0_1 t104 t107 _ ?side1 ?side2 ?side3 ?side4 A10.out).mono ?_); (case side1 => exact pC (Kd.C_below HR0_0.out HB.out)); (case side2 => exact HC0_0.out); (case side3 => exact pC (Kd.C_below HR0_1.out HB.out)); (case side4 => exact HC0_1.out); rintro e w23 ⟨v105, v108, rfl, ho0, ho1, hb⟩; refine ⟨_, rfl, ?_⟩; have HO106 := rl ho0 HB; have HO109 := rl ho1 HB; replace BK101 := bb BK101 hb; replace HB := bs HB hb; clear hb ho0 ho1) | ((with_reducible refine gate_dst (N := 5) rfl ?_); (try (refine gate_guard (by rfl) ?_; dsimp only)); refine bx 5 #[.slice none 0 0, .slice none 0 0] 25 ?_; intro gb110 hg w24 hbox hb; replace HO106 := rb HO106 hb; replace HO109 := rb HO109 hb; have BK110 := hbox; have GW110 := gs HB hg; have GE110 := gs HB hg; replace HB := bs HB hb; have NB101_110 := nl BK101 hg; have NB110_101 := nr BK101 hg; replace BK101 := bb BK101 hb; clear hb hbox hg; obtain ⟨Ao25, co25, eo25⟩ := Kd.R_slice HO106.out; subst eo25; have hnb26 := NB110_101.out; have hnc26 := NB101_110.out; obtain ⟨hcz27_0, hcz27_1, hfz27_0, hfz27_1⟩ := cf2 BK110; obtain ⟨Ao28, co28, eo28⟩ := Kd.R_slice HO109.out; subst eo28) | ((with_reducible refine gc 25 rfl ?_); refine gL 24 Tryz.func25 #[.agg #[.slice Ao25 t104.length co25, .slice Ao28 t107.length co28], .int .i64 a1] ?_; (with_reducible refine (turn_Starts.calls k _ _ t104 _ _ t107 a1 t111 t114 _ ?side1 ?side2 ?side3 ?side4 A11.out).mono ?_); (case side1 => refine (Kd.R_reads' (e := 67) (base := w.heap.size) (ok := fun k_ => True) (n := t104.length) (c := co25) ?_).2.2; exact (by refine pR ?_; exact (Kd.R_mono (Kd.R_far (p := ⟨gb110, 1, none⟩) (Kd.R_far (p := ⟨gb110, 0, none⟩) (Kd.R_types HO106.out BK110.out (by decide)) (fun _ hk => hk.2) (.slice Ao25 t104.length co25)) (fun _ hk => hk.2) (.slice Ao28 t107.length co28)) (fun _ h_ => h_.1)))); (case side2 => exact (Kd.R_reads' HO106.out).2.1); (case side3 => refine (Kd.R_reads' (e := 3) (base := w.heap.size) (ok := fun k_ => True) (n := t107.length) (c := co28) ?_).2.2; exact (by refine pR ?_; exact (Kd.R_mono (Kd.R_far (p := ⟨gb110, 1, none⟩) (Kd.R_far (p := ⟨gb110, 0, none⟩) (Kd.R_types HO109.out BK110.out (by decide)) (fun _ hk => hk.2) (.slice Ao25 t104.length co25)) (fun _ hk => hk.2) (.slice Ao28 t107.length co28)) (fun _ h_ => h_.1)))); (case side4 => exact (Kd.R_reads' HO109.out).2.1); rintro e w29 ⟨v112, rfl, ho0, hb⟩; refine ⟨_, rfl, ?_⟩; replace HO106 := Aside0.mk (Kd.R_below (by refine pR ?_; exact (Kd.R_mono (Kd.R_far (p := ⟨gb110, 1, none⟩) (Kd.R_far (p := ⟨gb110, 0, none⟩) (Kd.R_types HO106.out BK110.out (by decide)) (fun _ hk => hk.2) (.slice Ao25 t104.length co25)) (fun _ hk => hk.2) (.slice Ao28 t107.length co28)) (fun _ h_ => h_.1))) hb); replace HO109 := Aside0.mk (Kd.R_below (by refine pR ?_; exact (Kd.R_mono (Kd.R_far (p := ⟨gb110, 1, none⟩) (Kd.R_far (p := ⟨gb110, 0, none⟩) (Kd.R_types HO109.out BK110.out (by decide)) (fun _ hk => hk.2) (.slice Ao25 t104.length co25)) (fun _ hk => hk.2) (.slice Ao28 t107.length co28)) (fun _ h_ => h_.1))) hb); have HO113 := rl ho0 HB; replace BK101 := bf BK101 hb; replace BK110 := Aside0.mk (blk_below (g := gb110) (o := .cells #[.slice Ao25 t104.length co25, .slice Ao28 t107.length co28] 25 (0, 0)) (by refine pB ?_; refine blk_put (cs := #[.slice Ao25 t104.length co25, .slice none 0 0]) ?_ 1 _ rfl; refine pB ?_; refine blk_put (cs := #[.slice none 0 0, .slice none 0 0]) ?_ 0 _ rfl; exact pB BK110.out) hb); replace HB := bs HB hb; clear hb ho0; obtain ⟨hcz30_0, hcz30_1, hfz30_0, hfz30_1⟩ := cf2 BK110) | ((with_reducible refine gc 26 rfl ?_); refine gL 30 Tryz.func26 #[.agg #[.slice Ao25 t104.length co25, .slice Ao28 t107.length co28], .int .i64 a1] ?_; (with_reducible refine (turn_Waits.calls k _ _ t104 _ _ t107 a1 t115 t116 t117 _ ?side1 ?side2 ?side3 ?side4 A12.out).mono ?_); (case side1 => exact pC (Kd.R_reads' HO106.out).2.2); (case side2 => exact (Kd.R_reads' HO106.out).2.1); (case side3 => exact pC (Kd.R_reads' HO109.out).2.2); (case side4 => exact (Kd.R_reads' HO109.out).2.1); rintro e w31 ⟨rfl, hb⟩; refine ⟨_, rfl, ?_⟩; replace HO106 := rb HO106 hb; replace HO109 := rb HO109 hb; replace HO113 := rb HO113 hb; replace BK101 := bb BK101 hb; replace BK110 := bb BK110 hb; replace HB := bs HB hb; clear hb; obtain ⟨hcz32_0, hcz32_1, hfz32_0, hfz32_1⟩ := cf2 BK110) | ((with_reducible refine gc 27 rfl ?_); refine gL 37 Tryz.func27 #[.agg #[.slice Ao25 t104.length co25, .slice Ao28 t107.length co28], .int .i64 a1] ?_; (with_reducible refine (turn_Ends.calls k _ _ t104 _ _ t107 a1 t118 t119 t120 _ ?side1 ?side2 ?side3 ?side4 A13.out).mono ?_); (case side1 => exact pC (Kd.R_reads' HO106.out).2.2); (case side2 => exact (Kd.R_reads' HO106.out).2.1); (case side3 => exact pC (Kd.R_reads' HO109.out).2.2); (case side4 => exact (Kd.R_reads' HO109.out).2.1); rintro e w33 ⟨rfl, hb⟩; refine ⟨_, rfl, ?_⟩; replace HO106 := rb HO106 hb; replace HO109 := rb HO109 hb; replace HO113 := rb HO113 hb; replace BK101 := bb BK101 hb; replace BK110 := bb BK110 hb; replace HB := bs HB hb; clear hb) | ((with_reducible refine gate_dst (N := 11) rfl ?_); (try (refine gate_guard (by rfl) ?_; dsimp only)); refine bx 11 #[.int .i64 0, .int .i64 0] 42 ?_; intro gb121 hg w34 hbox hb; replace HO106 := rb HO106 hb; replace HO109 := rb HO109 hb; replace HO113 := Aside0.mk (Kd.R_below (Kd.R_elderB (pR HO113.out) gb121 (Nat.le_of_eq hg.symm)) hb); have BK121 := hbox; have GW121 := gs HB hg; have GE121 := gs HB hg; replace HB := bs HB hb; have NB101_121 := nl BK101 hg; have NB121_101 := nr BK101 hg; replace BK101 := bb BK101 hb; have NB110_121 := nl BK110 hg; have NB121_110 := nr BK110 hg; replace BK110 := bb BK110 hb; clear hb hbox hg; have hnb35 := NB121_101.out; have hnc35 := NB101_121.out; have hnb36 := NB121_110.out; have hnc36 := NB110_121.out; obtain ⟨hcz37_0, hcz37_1, hfz37_0, hfz37_1⟩ := cf2 BK121; obtain ⟨hcz38_0, hcz38_1, hfz38_0, hfz38_1⟩ := cf2 BK110; obtain ⟨hcz39_0, hcz39_1, hfz39_0, hfz39_1⟩ := cf2 BK101) | ((with_reducible refine gc 22 rfl ?_); refine gL 42 Tryz.func22 #[.agg #[.slice Ao25 t104.length co25, .slice Ao28 t107.length co28], .agg #[.slice A0_0 l0_0.length c0_0, .slice A0_1 l0_1.length c0_1]] ?_; (with_reducible refine (walkmillref04_Same.calls k _ _ t104 _ _ t107 _ _ l0_0 _ _ l0_1 true _ ?side1 ?side2 ?side3 ?side4 ?side5 ?side6 ?side7 ?side8 A14.out).mono ?_); (case side1 => refine (Kd.R_reads' (e := 67) (base := w.heap.size) (ok := fun k_ => True) (n := t104.length) (c := co25) ?_).2.2; exact (by refine pR ?_; exact (Kd.R_mono (Kd.R_far (p := ⟨gb121, 1, none⟩) (Kd.R_far (p := ⟨gb121, 0, none⟩) (Kd.R_types HO106.out BK121.out (by decide)) (fun _ hk => hk.2) (.int .i64 t118)) (fun _ hk => hk.2) (.int .i64 t119)) (fun _ h_ => h_.1)))); (case side2 => exact (Kd.R_reads' HO106.out).2.1); (case side3 => refine (Kd.R_reads' (e := 3) (base := w.heap.size) (ok := fun k_ => True) (n := t107.length) (c := co28) ?_).2.2; exact (by refine pR ?_; exact (Kd.R_mono (Kd.R_far (p := ⟨gb121, 1, none⟩) (Kd.R_far (p := ⟨gb121, 0, none⟩) (Kd.R_types HO109.out BK121.out (by decide)) (fun _ hk => hk.2) (.int .i64 t118)) (fun _ hk => hk.2) (.int .i64 t119)) (fun _ h_ => h_.1)))); (case side4 => exact (Kd.R_reads' HO109.out).2.1); (case side5 => exact Kd.C_below HR0_0.out (pE HB)); (case side6 => exact HC0_0.out); (case side7 => exact Kd.C_below HR0_1.out (pE HB)); (case side8 => exact HC0_1.out); rintro e w40 ⟨rfl, hb⟩; refine ⟨_, rfl, ?_⟩; replace HO106 := Aside0.mk (Kd.R_below (by refine pR ?_; exact (Kd.R_mono (Kd.R_far (p := ⟨gb121, 1, none⟩) (Kd.R_far (p := ⟨gb121, 0, none⟩) (Kd.R_types HO106.out BK121.out (by decide)) (fun _ hk => hk.2) (.int .i64 t118)) (fun _ hk => hk.2) (.int .i64 t119)) (fun _ h_ => h_.1))) hb); replace HO109 := Aside0.mk (Kd.R_below (by refine pR ?_; exact (Kd.R_mono (Kd.R_far (p := ⟨gb121, 1, none⟩) (Kd.R_far (p := ⟨gb121, 0, none⟩) (Kd.R_types HO109.out BK121.out (by decide)) (fun _ hk => hk.2) (.int .i64 t118)) (fun _ hk => hk.2) (.int .i64 t119)) (fun _ h_ => h_.1))) hb); replace HO113 := Aside0.mk (Kd.R_below (by refine pR ?_; exact (Kd.R_mono (Kd.R_far (p := ⟨gb121, 1, none⟩) (Kd.R_far (p := ⟨gb121, 0, none⟩) (Kd.R_mono HO113.out (fun k_ hk => (⟨hk, hk.2⟩ : _ ∧ k_ ≠ gb121))) (fun _ hk => hk.2) (.int .i64 t118)) (fun _ hk => hk.2) (.int .i64 t119)) (fun _ h_ => h_.1))) hb); replace BK101 := bf BK101 hb; replace BK110 := bf BK110 hb; replace BK121 := Aside0.mk (blk_below (g := gb121) (o := .cells #[.int .i64 t118, .int .i64 t119] 42 (0, 0)) (by refine pB ?_; refine blk_put (cs := #[.int .i64 t118, .int .i64 0]) ?_ 1 _ rfl; refine pB ?_; refine blk_put (cs := #[.int .i64 0, .int .i64 0]) ?_ 0 _ rfl; exact pB BK121.out) hb); replace HB := bs HB hb; clear hb; obtain ⟨hcz41_0, hcz41_1, hfz41_0, hfz41_1⟩ := cf2 BK101) | ((with_reducible refine gc 28 rfl ?_); refine gL 46 Tryz.func28 #[.agg #[.slice A0_0 l0_0.length c0_0, .slice A0_1 l0_1.length c0_1], .int .i64 a1, .int .i64 0] ?_; (with_reducible refine (walkmillref04_Open.calls k _ _ l0_0 _ _ l0_1 a1 0 t123 _ ?side1 ?side2 ?side3 ?side4 A16.out).mono ?_); (case side1 => exact pC (Kd.C_below HR0_0.out HB.out)); (case side2 => exact HC0_0.out); (case side3 => exact pC (Kd.C_below HR0_1.out HB.out)); (case side4 => exact HC0_1.out); rintro e w42 ⟨rfl, hb⟩; refine ⟨_, rfl, ?_⟩; replace HO106 := rb HO106 hb; replace HO109 := rb HO109 hb; replace HO113 := rb HO113 hb; replace BK101 := bb BK101 hb; replace BK110 := bb BK110 hb; replace BK121 := bb BK121 hb; replace HB := bs HB hb; clear hb))
    (try simp only [Act.put, List.setIfInBounds_toArray, List.set_cons_zero, List.set_cons_succ])
    go_cut [103] (fun v103 wc => ∃ (kq : Nat) (x103_17 : Bool), v103 = .bool x103_17 ∧ Aside0 (walkmilllaw04_TurnTakes.j0 kq a1 t115 t116 t117 x103_17 l0_0 l0_1 = some r) ∧ Aside0 (kq ≤ k) ∧ Aside0 (Kd.R k67 67 wc w.heap.size (fun _ => True) (.slice Ao25 t104.length co25) t104) ∧ Aside0 (Kd.R (Kd.int .i64) 3 wc w.heap.size (fun _ => True) (.slice Ao28 t107.length co28) t107) ∧ Aside0 (wc.heap[gb101]? = some (.cells #[(.slice A0_0 l0_0.length c0_0), (.slice A0_1 l0_1.length c0_1)] 25 (0, 0))) ∧ Aside0 (wc.heap[gb110]? = some (.cells #[(.slice Ao25 t104.length co25), (.slice Ao28 t107.length co28)] 25 (0, 0))) ∧ Aside0 (wc.heap[gb121]? = some (.cells #[.int .i64 t118, .int .i64 t119] 42 (0, 0))) ∧ Aside0 (Below w.heap.size w wc))
    case first =>
     have H := HC18.out
     clear HC18
     by_cases c43 : t114 = 0
     ·rw [if_pos c43] at H
      have c43b0 : (t114 == 0) = true := beq_iff_eq.mpr c43
      have c43b1 : (t114 != 0) = false := bne_eq_false_iff_eq.mpr c43
      clear c43
      (first | rw [c43b0] | (simp only [i64_w, i32_w]; rw [c43b0]) | skip)
      by_cases c44 : t120 = 0
      ·rw [if_pos c44] at H
       have c44b0 : (t120 == 0) = true := beq_iff_eq.mpr c44
       have c44b1 : (t120 != 0) = false := bne_eq_false_iff_eq.mpr c44
       clear c44
       obtain ⟨t125, A45, H⟩ := bi H
       obtain ⟨t128, A46, H⟩ := bi H
       by_cases c47 : t128 = true
       ·subst c47
        rw [if_pos rfl] at H
        obtain ⟨⟨t129, t130⟩, A48, H⟩ := bi H
        have H' := Aside0.mk H
        clear H
        try go_wp2
        replace HO106 := Aside0.mk (Kd.R_drew HO106.out)
        replace HO109 := Aside0.mk (Kd.R_drew HO109.out)
        replace HO113 := Aside0.mk (Kd.R_drew HO113.out)
        replace BK101 := Aside0.mk (blk_drew BK101.out)
        replace BK110 := Aside0.mk (blk_drew BK110.out)
        replace BK121 := Aside0.mk (blk_drew BK121.out)
        replace HB := Aside0.mk (below_drew1 HB.out)
        refine start_ (n := 21) (S := fun w' => w'.cell? ⟨gb101, 0, none⟩ = some (.slice A0_0 l0_0.length c0_0) ∧ w'.cell? ⟨gb101, 1, none⟩ = some (.slice A0_1 l0_1.length c0_1) ∧ w'.cell? ⟨gb121, 0, none⟩ = some (.int .i64 t118) ∧ w'.cell? ⟨gb121, 1, none⟩ = some (.int .i64 t119)) (ds := []) #[false, false, false, false, false, false, false, false, false, false, false, false, false, false, false, false, false, false, false, false, false] (by kernel_rfl) rfl rfl ⟨(blk_cell BK101.out 0).trans rfl, (blk_cell BK101.out 1).trans rfl, (blk_cell BK121.out 0).trans rfl, (blk_cell BK121.out 1).trans rfl⟩ (fun hHeld => ?_); refine with_tabW walkmilllaw04_TurnTakes.tab12 walkmilllaw04_TurnTakes.bits12 (fun HT_ HW_ => ?_)
        generalize w42.drew = w49 at HO106 HO109 HO113 BK101 BK110 BK121 HB hHeld ⊢
        refine pu 0 83 ?_
        refine pu 1 84 ?_
        refine pu 2 85 ?_
        refine pu 3 86 ?_
        refine pu 4 87 ?_
        refine pu 5 88 ?_
        refine pu 6 89 ?_
        refine pu 7 90 ?_
        refine pu 9 92 ?_
        refine tk 8 91 hHeld ?_
        refine on 10 (fun K hK => ?_)
        refine gO Tryz.func30 #[.agg #[.slice A0_0 l0_0.length c0_0, .slice A0_1 l0_1.length c0_1], .int .i64 a1] ?_
        with_reducible refine (walkmillref04_Starts.calls k _ _ l0_0 _ _ l0_1 a1 t125 _ ?side1 ?side2 ?side3 ?side4 A45.out).mono ?_
        (case side1 => exact pC (Kd.C_below HR0_0.out HB.out))
        (case side2 => exact HC0_0.out)
        (case side3 => exact pC (Kd.C_below HR0_1.out HB.out))
        (case side4 => exact HC0_1.out)
        rintro e w50 ⟨v126, rfl, ho0, hb⟩
        refine ⟨_, rfl, ?_⟩
        replace HO106 := rb HO106 hb
        replace HO109 := rb HO109 hb
        have HO127 := Aside0.mk (Kd.R_lower (Kd.R_newB (Kd.R_new' ho0 (Kd.R_lt (pR HO113.out))) (g := gb121) (o := .cells #[.int .i64 t118, .int .i64 t119] 42 (0, 0)) (pB BK121.out)) (below_size (pE HB)))
        replace HO113 := re HO113 ho0 hb
        replace BK101 := bb BK101 hb
        replace BK110 := bb BK110 hb
        replace BK121 := bb BK121 hb
        replace HB := bs HB hb
        (try clear hb)
        (try clear hb2)
        (try clear hk)
        (try clear hi)
        (try clear ho0)
        obtain ⟨Ao51, co51, eo51⟩ := Kd.R_slice HO113.out
        (first | subst eo51 | (injection eo51 with f1_ f2_ f3_; have f4_ := f1_.symm; have f5_ := f3_.symm; clear f1_ f2_ f3_; subst f4_; subst f5_))
        obtain ⟨Ao52, co52, eo52⟩ := Kd.R_slice HO127.out
        (first | subst eo52 | (injection eo52 with f1_ f2_ f3_; have f4_ := f1_.symm; have f5_ := f3_.symm; clear f1_ f2_ f3_; subst f4_; subst f5_))
        refine hK.out _ _ ⟨(blk_cell BK101.out 0).trans rfl, (blk_cell BK101.out 1).trans rfl, (blk_cell BK121.out 0).trans rfl, (blk_cell BK121.out 1).trans rfl⟩ (fun hHeld => ?_)
        clear hK K
        refine norm_ (a' := ?_) ?_ ?_
        rotate_left
        ·show Act.put _ (some 93) _ = _
         simp only [Act.put, List.setIfInBounds_toArray, List.set_cons_zero, List.set_cons_succ, i64_w, i32_w]
         rfl
        refine on 11 (fun K hK => ?_)
        refine gO Tryz.func29 #[.slice Ao51 t111.length co51, .slice Ao52 t125.length co52] ?_
        with_reducible refine (walkmillref04_Spans.calls k _ _ t111 _ _ t125 true _ ?side1 ?side2 ?side3 ?side4 A46.out).mono ?_
        (case side1 => exact pC (Kd.R_reads' HO113.out).2.2)
        (case side2 => exact (Kd.R_reads' HO113.out).2.1)
        (case side3 => exact pC (Kd.R_reads' HO127.out).2.2)
        (case side4 => exact (Kd.R_reads' HO127.out).2.1)
        rintro e w' ⟨rfl, ⟨nd, rfl⟩⟩
        refine ⟨_, rfl, ?_⟩
        refine hK.out _ _ ⟨(blk_cell BK101.out 0).trans rfl, (blk_cell BK101.out 1).trans rfl, (blk_cell BK121.out 0).trans rfl, (blk_cell BK121.out 1).trans rfl⟩ (fun hHeld => ?_)
        clear hK K
        refine norm_ (a' := ?_) ?_ ?_
        rotate_left
        ·show Act.put _ (some 94) _ = _
         simp only [Act.put, List.setIfInBounds_toArray, List.set_cons_zero, List.set_cons_succ, i64_w, i32_w]
         rfl
        refine pu 12 95 ?_
        refine pu 13 96 ?_
        refine pu 14 97 ?_
        refine pu 17 100 ?_
        refine tk 15 98 hHeld ?_
        refine tk 16 99 hHeld ?_
        refine on 18 (fun K hK => ?_)
        refine gO Tryz.func31 #[.agg #[.slice A0_0 l0_0.length c0_0, .slice A0_1 l0_1.length c0_1], .int .i64 a1] ?_
        with_reducible refine (walkmillref04_Ends.calls k _ _ l0_0 _ _ l0_1 a1 t129 t130 _ ?side1 ?side2 ?side3 ?side4 A48.out).mono ?_
        (case side1 => exact pC (Kd.C_below HR0_0.out (pE HB)))
        (case side2 => exact HC0_0.out)
        (case side3 => exact pC (Kd.C_below HR0_1.out (pE HB)))
        (case side4 => exact HC0_1.out)
        rintro e w53 ⟨rfl, hb⟩
        refine ⟨_, rfl, ?_⟩
        replace HO106 := rb HO106 hb
        replace HO109 := rb HO109 hb
        replace HO113 := rb HO113 hb
        replace HO127 := rb HO127 hb
        replace BK101 := bb BK101 hb
        replace BK110 := bb BK110 hb
        replace BK121 := bb BK121 hb
        replace HB := bs HB hb
        (try clear hb)
        (try clear hb2)
        (try clear hk)
        (try clear hi)
        refine hK.out _ _ ⟨(blk_cell BK101.out 0).trans rfl, (blk_cell BK101.out 1).trans rfl, (blk_cell BK121.out 0).trans rfl, (blk_cell BK121.out 1).trans rfl⟩ (fun hHeld => ?_)
        clear hK K
        refine norm_ (a' := ?_) ?_ ?_
        rotate_left
        ·show Act.put _ (some 101) _ = _
         simp only [Act.put, List.setIfInBounds_toArray, List.set_cons_zero, List.set_cons_succ, i64_w, i32_w]
         rfl
        refine pu 19 102 ?_
        refine pu 20 103 ?_
        refine done_ (done_of HT_.out (by kernel_rfl)) ?_
        try go_wp2
        go_meet
        case rel => exact ⟨_, ((!(t118 == t129) || (!(t119 == t130)))), (by first | rfl | (simp; done) | (simp [*]; done)), H', ⟨by first | omega | exact Nat.le_refl _⟩, ⟨pR HO106.out⟩, ⟨pR HO109.out⟩, ⟨pB BK101.out⟩, ⟨pB BK110.out⟩, ⟨pB BK121.out⟩, ⟨pE HB⟩⟩
       ·replace c47 := Bool.eq_false_iff.mpr c47
        subst c47
        rw [if_neg (show ¬ (false = true) by decide)] at H
        exact (walkmilllaw04_TurnTakes.dead_j0 _ _ _ _ _ _ _ _ H HRT.out).elim
      ·rw [if_neg c44] at H
       have c44b0 : (t120 == 0) = false := beq_eq_false_iff_ne.mpr c44
       have c44b1 : (t120 != 0) = true := bne_iff_ne.mpr c44
       exact (walkmilllaw04_TurnTakes.dead_j0 _ _ _ _ _ _ _ _ H HRT.out).elim
     ·rw [if_neg c43] at H
      have c43b0 : (t114 == 0) = false := beq_eq_false_iff_ne.mpr c43
      have c43b1 : (t114 != 0) = true := bne_iff_ne.mpr c43
      (first | rw [c43b0] | (simp only [i64_w, i32_w]; rw [c43b0]) | skip)
      exact (walkmilllaw04_TurnTakes.dead_j0 _ _ _ _ _ _ _ _ H HRT.out).elim
    case rest =>
     clear HC18
     try clear c1
     try clear c2
     try clear p2
     try clear c3
     try clear c4
     try clear c15
     try clear c16
     try clear c17
     try clear c17b0
     try clear c17b1
     try clear c18
     try clear c22
     try clear c25
     try clear c26
     try clear c27
     try clear c28
     try clear c29
     try clear c30
     try clear c31
     try clear c35
     try clear c36
     try clear c43
     try clear c43b0
     try clear c43b1
     try clear c44
     try clear c44b0
     try clear c44b1
     try clear c47
     try clear hcz20_0
     try clear hcz20_1
     try clear hcz22_0
     try clear hcz22_1
     try clear hcz27_0
     try clear hcz27_1
     try clear hcz30_0
     try clear hcz30_1
     try clear hcz32_0
     try clear hcz32_1
     try clear hcz37_0
     try clear hcz37_1
     try clear hcz38_0
     try clear hcz38_1
     try clear hcz39_0
     try clear hcz39_1
     try clear hcz41_0
     try clear hcz41_1
     try clear hcz7_0
     try clear hcz7_1
     try clear hfz20_0
     try clear hfz20_1
     try clear hfz22_0
     try clear hfz22_1
     try clear hfz27_0
     try clear hfz27_1
     try clear hfz30_0
     try clear hfz30_1
     try clear hfz32_0
     try clear hfz32_1
     try clear hfz37_0
     try clear hfz37_1
     try clear hfz38_0
     try clear hfz38_1
     try clear hfz39_0
     try clear hfz39_1
     try clear hfz41_0
     try clear hfz41_1
     try clear hfz7_0
     try clear hfz7_1
     obtain ⟨kq, x103_17, rfl, HA, HJ17, HO_111000, HO_111001, BK101, BK110, BK121, HB⟩ := hcut
     cases kq with
     | zero => exact absurd HA.out (by simp [walkmilllaw04_TurnTakes.j0])
     | succ kj17 =>
      have H := HA.out
      clear HA
      simp only [walkmilllaw04_TurnTakes.j0] at H
      by_cases c54 : x103_17 = true
      ·subst c54
       rw [if_pos rfl] at H
       exact absurd ((Option.some.inj H).trans HRT.out) (by simp)
      ·replace c54 := Bool.eq_false_iff.mpr c54
       subst c54
       rw [if_neg (show ¬ (false = true) by decide)] at H
       obtain ⟨t131, A55, H⟩ := bi H
       obtain ⟨⟨t134, t135⟩, A56, H⟩ := bi H
       by_cases c57 : t134 < 0
       ·rw [if_pos c57] at H
        have c57b0 : decide (t134 < 0) = true := decide_eq_true c57
        clear c57
        by_cases c58 : t117 = 7
        ·rw [if_pos c58] at H
         have c58b0 : (t117 == 7) = true := beq_iff_eq.mpr c58
         have c58b1 : (t117 != 7) = false := bne_eq_false_iff_eq.mpr c58
         clear c58
         by_cases c59 : t115 = 0
         ·rw [if_pos c59] at H
          have c59b0 : (t115 == 0) = true := beq_iff_eq.mpr c59
          have c59b1 : (t115 != 0) = false := bne_eq_false_iff_eq.mpr c59
          clear c59
          by_cases c60 : t116 = 0
          ·rw [if_pos c60] at H
           have c60b0 : (t116 == 0) = true := beq_iff_eq.mpr c60
           have c60b1 : (t116 != 0) = false := bne_eq_false_iff_eq.mpr c60
           clear c60
           obtain ⟨t136, A61, H⟩ := bi H
           obtain rfl := Option.some.inj H
           try go_wp2
           replace HO_111000 := Aside0.mk (Kd.R_drew HO_111000.out)
           replace HO_111001 := Aside0.mk (Kd.R_drew HO_111001.out)
           replace BK101 := Aside0.mk (blk_drew BK101.out)
           replace BK110 := Aside0.mk (blk_drew BK110.out)
           replace BK121 := Aside0.mk (blk_drew BK121.out)
           replace HB := Aside0.mk (below_drew1 HB.out)
           refine start_ (n := 10) (S := fun w' => w'.cell? ⟨gb101, 0, none⟩ = some (.slice A0_0 l0_0.length c0_0) ∧ w'.cell? ⟨gb101, 1, none⟩ = some (.slice A0_1 l0_1.length c0_1)) (ds := []) #[false, false, false, false, false, false, false, false, false, false] (by kernel_rfl) rfl rfl ⟨(blk_cell BK101.out 0).trans rfl, (blk_cell BK101.out 1).trans rfl⟩ (fun hHeld => ?_); refine with_tabW walkmilllaw04_TurnTakes.tab14 walkmilllaw04_TurnTakes.bits14 (fun HT_ HW_ => ?_)
           generalize wc.drew = w62 at HO_111000 HO_111001 BK101 BK110 BK121 HB hHeld ⊢
           refine pu 3 108 ?_
           refine tk 0 105 hHeld ?_
           refine tk 1 106 hHeld ?_
           refine on 2 (fun K hK => ?_)
           refine gO Tryz.func24 #[.agg #[.slice A0_0 l0_0.length c0_0, .slice A0_1 l0_1.length c0_1]] ?_
           with_reducible refine (walkmillref04_Order.calls kj17 _ _ l0_0 _ _ l0_1 t131 _ ?side1 ?side2 ?side3 ?side4 A55.out).mono ?_
           (case side1 => exact pC (Kd.C_below HR0_0.out HB.out))
           (case side2 => exact HC0_0.out)
           (case side3 => exact pC (Kd.C_below HR0_1.out HB.out))
           (case side4 => exact HC0_1.out)
           rintro e w63 ⟨v132, rfl, ho0, hb⟩
           refine ⟨_, rfl, ?_⟩
           replace HO_111000 := rb HO_111000 hb
           have HO133 := Aside0.mk (Kd.R_lower (Kd.R_new' ho0 (Kd.R_lt (pR HO_111001.out))) (below_size (pE HB)))
           replace HO_111001 := re HO_111001 ho0 hb
           replace BK101 := bb BK101 hb
           replace BK110 := bb BK110 hb
           replace BK121 := bb BK121 hb
           replace HB := bs HB hb
           (try clear hb)
           (try clear hb2)
           (try clear hk)
           (try clear hi)
           (try clear ho0)
           obtain ⟨Ao64, co64, eo64⟩ := Kd.R_slice HO133.out
           (first | subst eo64 | (injection eo64 with f1_ f2_ f3_; have f4_ := f1_.symm; have f5_ := f3_.symm; clear f1_ f2_ f3_; subst f4_; subst f5_))
           refine hK.out _ _ ⟨(blk_cell BK101.out 0).trans rfl, (blk_cell BK101.out 1).trans rfl⟩ (fun hHeld => ?_)
           clear hK K
           refine norm_ (a' := ?_) ?_ ?_
           rotate_left
           ·show Act.put _ (some 107) _ = _
            simp only [Act.put, List.setIfInBounds_toArray, List.set_cons_zero, List.set_cons_succ, i64_w, i32_w]
            rfl
           refine on 4 (fun K hK => ?_)
           refine gO Tryz.func32 #[.agg #[.slice A0_0 l0_0.length c0_0, .slice A0_1 l0_1.length c0_1], .slice Ao64 t131.length co64, .int .i64 a1] ?_
           with_reducible refine (walkmillref04_Worst.calls kj17 _ _ l0_0 _ _ l0_1 _ _ t131 a1 t134 t135 _ ?side1 ?side2 ?side3 ?side4 ?side5 ?side6 A56.out).mono ?_
           (case side1 => exact pC (Kd.C_below HR0_0.out HB.out))
           (case side2 => exact HC0_0.out)
           (case side3 => exact pC (Kd.C_below HR0_1.out HB.out))
           (case side4 => exact HC0_1.out)
           (case side5 => exact pC (Kd.R_reads' HO133.out).2.2)
           (case side6 => exact (Kd.R_reads' HO133.out).2.1)
           rintro e w65 ⟨rfl, hb⟩
           refine ⟨_, rfl, ?_⟩
           replace HO_111000 := rb HO_111000 hb
           replace HO_111001 := rb HO_111001 hb
           replace HO133 := rb HO133 hb
           replace BK101 := bb BK101 hb
           replace BK110 := bb BK110 hb
           replace BK121 := bb BK121 hb
           replace HB := bs HB hb
           (try clear hb)
           (try clear hb2)
           (try clear hk)
           (try clear hi)
           refine hK.out _ _ ⟨(blk_cell BK101.out 0).trans rfl, (blk_cell BK101.out 1).trans rfl⟩ (fun hHeld => ?_)
           clear hK K
           refine norm_ (a' := ?_) ?_ ?_
           rotate_left
           ·show Act.put _ (some 109) _ = _
            simp only [Act.put, List.setIfInBounds_toArray, List.set_cons_zero, List.set_cons_succ, i64_w, i32_w]
            rfl
           refine pu 5 104 ?_
           refine pu 6 110 ?_
           refine pu 7 111 ?_
           refine pu 8 14 ?_
           refine pu 9 15 ?_
           refine done_ (done_of HT_.out (by kernel_rfl)) ?_
           try go_wp2_with (first | (go_at_call 17; (with_reducible refine (walkmilllaw04_known.calls  t136 _ A61.out).mono ?_); rintro e w66 ⟨rfl, hb⟩; replace HO_111000 := rb HO_111000 hb; replace HO_111001 := rb HO_111001 hb; replace HO133 := rb HO133 hb; replace BK101 := bb BK101 hb; replace BK110 := bb BK110 hb; replace BK121 := bb BK121 hb; replace HB := bs HB hb; (try clear hb); (try clear hb2); (try clear hk); (try clear hi)))
           go_ret
           exact ⟨eT, pE HB⟩
          ·rw [if_neg c60] at H
           have c60b0 : (t116 == 0) = false := beq_eq_false_iff_ne.mpr c60
           have c60b1 : (t116 != 0) = true := bne_iff_ne.mpr c60
           exact absurd ((Option.some.inj H).trans HRT.out) (by simp)
         ·rw [if_neg c59] at H
          have c59b0 : (t115 == 0) = false := beq_eq_false_iff_ne.mpr c59
          have c59b1 : (t115 != 0) = true := bne_iff_ne.mpr c59
          exact absurd ((Option.some.inj H).trans HRT.out) (by simp)
        ·rw [if_neg c58] at H
         have c58b0 : (t117 == 7) = false := beq_eq_false_iff_ne.mpr c58
         have c58b1 : (t117 != 7) = true := bne_iff_ne.mpr c58
         exact absurd ((Option.some.inj H).trans HRT.out) (by simp)
       ·rw [if_neg c57] at H
        have c57b0 : decide (t134 < 0) = false := decide_eq_false c57
        clear c57
        by_cases c67 : t117 = 0
        ·rw [if_pos c67] at H
         have c67b0 : (t117 == 0) = true := beq_iff_eq.mpr c67
         have c67b1 : (t117 != 0) = false := bne_eq_false_iff_eq.mpr c67
         clear c67
         by_cases c68 : t115 = t134
         ·rw [if_pos c68] at H
          have c68b0 : (t115 == t134) = true := beq_iff_eq.mpr c68
          have c68b1 : (t115 != t134) = false := bne_eq_false_iff_eq.mpr c68
          clear c68
          by_cases c69 : t116 = t135
          ·rw [if_pos c69] at H
           have c69b0 : (t116 == t135) = true := beq_iff_eq.mpr c69
           have c69b1 : (t116 != t135) = false := bne_eq_false_iff_eq.mpr c69
           clear c69
           obtain ⟨t137, A70, H⟩ := bi H
           obtain rfl := Option.some.inj H
           try go_wp2
           replace HO_111000 := Aside0.mk (Kd.R_drew HO_111000.out)
           replace HO_111001 := Aside0.mk (Kd.R_drew HO_111001.out)
           replace BK101 := Aside0.mk (blk_drew BK101.out)
           replace BK110 := Aside0.mk (blk_drew BK110.out)
           replace BK121 := Aside0.mk (blk_drew BK121.out)
           replace HB := Aside0.mk (below_drew1 HB.out)
           refine start_ (n := 10) (S := fun w' => w'.cell? ⟨gb101, 0, none⟩ = some (.slice A0_0 l0_0.length c0_0) ∧ w'.cell? ⟨gb101, 1, none⟩ = some (.slice A0_1 l0_1.length c0_1)) (ds := []) #[false, false, false, false, false, false, false, false, false, false] (by kernel_rfl) rfl rfl ⟨(blk_cell BK101.out 0).trans rfl, (blk_cell BK101.out 1).trans rfl⟩ (fun hHeld => ?_); refine with_tabW walkmilllaw04_TurnTakes.tab14 walkmilllaw04_TurnTakes.bits14 (fun HT_ HW_ => ?_)
           generalize wc.drew = w71 at HO_111000 HO_111001 BK101 BK110 BK121 HB hHeld ⊢
           refine pu 3 108 ?_
           refine tk 0 105 hHeld ?_
           refine tk 1 106 hHeld ?_
           refine on 2 (fun K hK => ?_)
           refine gO Tryz.func24 #[.agg #[.slice A0_0 l0_0.length c0_0, .slice A0_1 l0_1.length c0_1]] ?_
           with_reducible refine (walkmillref04_Order.calls kj17 _ _ l0_0 _ _ l0_1 t131 _ ?side1 ?side2 ?side3 ?side4 A55.out).mono ?_
           (case side1 => exact pC (Kd.C_below HR0_0.out HB.out))
           (case side2 => exact HC0_0.out)
           (case side3 => exact pC (Kd.C_below HR0_1.out HB.out))
           (case side4 => exact HC0_1.out)
           rintro e w72 ⟨v132, rfl, ho0, hb⟩
           refine ⟨_, rfl, ?_⟩
           replace HO_111000 := rb HO_111000 hb
           have HO133 := Aside0.mk (Kd.R_lower (Kd.R_new' ho0 (Kd.R_lt (pR HO_111001.out))) (below_size (pE HB)))
           replace HO_111001 := re HO_111001 ho0 hb
           replace BK101 := bb BK101 hb
           replace BK110 := bb BK110 hb
           replace BK121 := bb BK121 hb
           replace HB := bs HB hb
           (try clear hb)
           (try clear hb2)
           (try clear hk)
           (try clear hi)
           (try clear ho0)
           obtain ⟨Ao73, co73, eo73⟩ := Kd.R_slice HO133.out
           (first | subst eo73 | (injection eo73 with f1_ f2_ f3_; have f4_ := f1_.symm; have f5_ := f3_.symm; clear f1_ f2_ f3_; subst f4_; subst f5_))
           refine hK.out _ _ ⟨(blk_cell BK101.out 0).trans rfl, (blk_cell BK101.out 1).trans rfl⟩ (fun hHeld => ?_)
           clear hK K
           refine norm_ (a' := ?_) ?_ ?_
           rotate_left
           ·show Act.put _ (some 107) _ = _
            simp only [Act.put, List.setIfInBounds_toArray, List.set_cons_zero, List.set_cons_succ, i64_w, i32_w]
            rfl
           refine on 4 (fun K hK => ?_)
           refine gO Tryz.func32 #[.agg #[.slice A0_0 l0_0.length c0_0, .slice A0_1 l0_1.length c0_1], .slice Ao73 t131.length co73, .int .i64 a1] ?_
           with_reducible refine (walkmillref04_Worst.calls kj17 _ _ l0_0 _ _ l0_1 _ _ t131 a1 t134 t135 _ ?side1 ?side2 ?side3 ?side4 ?side5 ?side6 A56.out).mono ?_
           (case side1 => exact pC (Kd.C_below HR0_0.out HB.out))
           (case side2 => exact HC0_0.out)
           (case side3 => exact pC (Kd.C_below HR0_1.out HB.out))
           (case side4 => exact HC0_1.out)
           (case side5 => exact pC (Kd.R_reads' HO133.out).2.2)
           (case side6 => exact (Kd.R_reads' HO133.out).2.1)
           rintro e w74 ⟨rfl, hb⟩
           refine ⟨_, rfl, ?_⟩
           replace HO_111000 := rb HO_111000 hb
           replace HO_111001 := rb HO_111001 hb
           replace HO133 := rb HO133 hb
           replace BK101 := bb BK101 hb
           replace BK110 := bb BK110 hb
           replace BK121 := bb BK121 hb
           replace HB := bs HB hb
           (try clear hb)
           (try clear hb2)
           (try clear hk)
           (try clear hi)
           refine hK.out _ _ ⟨(blk_cell BK101.out 0).trans rfl, (blk_cell BK101.out 1).trans rfl⟩ (fun hHeld => ?_)
           clear hK K
           refine norm_ (a' := ?_) ?_ ?_
           rotate_left
           ·show Act.put _ (some 109) _ = _
            simp only [Act.put, List.setIfInBounds_toArray, List.set_cons_zero, List.set_cons_succ, i64_w, i32_w]
            rfl
           refine pu 5 104 ?_
           refine pu 6 110 ?_
           refine pu 7 111 ?_
           refine pu 8 14 ?_
           refine pu 9 15 ?_
           refine done_ (done_of HT_.out (by kernel_rfl)) ?_
           try go_wp2_with (first | (go_at_call 17; (with_reducible refine (walkmilllaw04_known.calls  t137 _ A70.out).mono ?_); rintro e w75 ⟨rfl, hb⟩; replace HO_111000 := rb HO_111000 hb; replace HO_111001 := rb HO_111001 hb; replace HO133 := rb HO133 hb; replace BK101 := bb BK101 hb; replace BK110 := bb BK110 hb; replace BK121 := bb BK121 hb; replace HB := bs HB hb; (try clear hb); (try clear hb2); (try clear hk); (try clear hi)))
           go_ret
           exact ⟨eT, pE HB⟩
          ·rw [if_neg c69] at H
           have c69b0 : (t116 == t135) = false := beq_eq_false_iff_ne.mpr c69
           have c69b1 : (t116 != t135) = true := bne_iff_ne.mpr c69
           exact absurd ((Option.some.inj H).trans HRT.out) (by simp)
         ·rw [if_neg c68] at H
          have c68b0 : (t115 == t134) = false := beq_eq_false_iff_ne.mpr c68
          have c68b1 : (t115 != t134) = true := bne_iff_ne.mpr c68
          exact absurd ((Option.some.inj H).trans HRT.out) (by simp)
        ·rw [if_neg c67] at H
         have c67b0 : (t117 == 0) = false := beq_eq_false_iff_ne.mpr c67
         have c67b1 : (t117 != 0) = true := bne_iff_ne.mpr c67
         exact absurd ((Option.some.inj H).trans HRT.out) (by simp)
   ·rw [if_neg c17] at H
    have c17b0 : (t123 == 0) = false := beq_eq_false_iff_ne.mpr c17
    have c17b1 : (t123 != 0) = true := bne_iff_ne.mpr c17
    by_cases c76 : t114 = t123
    ·rw [if_pos c76] at H
     have c76b0 : (t114 == t123) = true := beq_iff_eq.mpr c76
     have c76b1 : (t114 != t123) = false := bne_eq_false_iff_eq.mpr c76
     clear c76
     by_cases c77 : t117 = t123
     ·rw [if_pos c77] at H
      have c77b0 : (t117 == t123) = true := beq_iff_eq.mpr c77
      have c77b1 : (t117 != t123) = false := bne_eq_false_iff_eq.mpr c77
      clear c77
      by_cases c78 : t120 = t123
      ·rw [if_pos c78] at H
       have c78b0 : (t120 == t123) = true := beq_iff_eq.mpr c78
       have c78b1 : (t120 != t123) = false := bne_eq_false_iff_eq.mpr c78
       clear c78
       by_cases c79 : (t111.length : Int) = 0
       ·rw [if_pos c79] at H
        have c79b0 : ((t111.length : Int) == 0) = true := beq_iff_eq.mpr c79
        have c79b1 : ((t111.length : Int) != 0) = false := bne_eq_false_iff_eq.mpr c79
        clear c79
        by_cases c80 : t115 = 0
        ·rw [if_pos c80] at H
         have c80b0 : (t115 == 0) = true := beq_iff_eq.mpr c80
         have c80b1 : (t115 != 0) = false := bne_eq_false_iff_eq.mpr c80
         clear c80
         by_cases c81 : t116 = 0
         ·rw [if_pos c81] at H
          have c81b0 : (t116 == 0) = true := beq_iff_eq.mpr c81
          have c81b1 : (t116 != 0) = false := bne_eq_false_iff_eq.mpr c81
          clear c81
          by_cases c82 : (t118 == 0 && (t119 == 0)) = true
          ·rw [if_pos c82] at H
           have c82b0 : (t118 == 0 && (t119 == 0)) = true := c82
           (try (have c82b1 : decide (t118 = 0 && (t119 == 0)) = true := by simpa using c82))
           (try (have c82b2 : (t118 == 0 && (t119 == 0)) = true := by simpa using c82))
           clear c82
           obtain ⟨t124, A83, H⟩ := bi H
           obtain rfl := Option.some.inj H
           go_enter Tryz.func4, Tryz.ntmps4
           go_wp2_with (first | ((with_reducible refine gate_dst (N := 2) rfl ?_); (try (refine gate_guard (by rfl) ?_; dsimp only)); refine bx 2 #[.slice A0_0 l0_0.length c0_0, .slice A0_1 l0_1.length c0_1] 25 ?_; intro gb101 hg w84 hbox hb; have BK101 := hbox; have GW101 := gs HB hg; have GE101 := gs HB hg; replace HB := bs HB hb; clear hb hbox hg; obtain ⟨_, _, _, _⟩ := cf2 BK101) | ((with_reducible refine gc 16 rfl ?_); refine gL 17 Tryz.func16 #[.agg #[.slice A0_0 l0_0.length c0_0, .slice A0_1 l0_1.length c0_1]] ?_; (with_reducible refine (walkmilllaw04_long.calls _ _ l0_0 _ _ l0_1 false _ ?side1 ?side2 ?side3 ?side4 A3.out).mono ?_); (case side1 => exact pC (Kd.C_below HR0_0.out HB.out)); (case side2 => exact HC0_0.out); (case side3 => exact pC (Kd.C_below HR0_1.out HB.out)); (case side4 => exact HC0_1.out); rintro e w86 ⟨rfl, hb⟩; refine ⟨_, rfl, ?_⟩; replace BK101 := bb BK101 hb; replace HB := bs HB hb; clear hb; obtain ⟨_, _, _, _⟩ := cf2 BK101) | ((with_reducible refine gc 18 rfl ?_); refine gL 20 Tryz.func18 #[.agg #[.slice A0_0 l0_0.length c0_0, .slice A0_1 l0_1.length c0_1]] ?_; (with_reducible refine (walkmillref04_Copy.calls _ _ l0_0 _ _ l0_1 t104 t107 _ ?side1 ?side2 ?side3 ?side4 A10.out).mono ?_); (case side1 => exact pC (Kd.C_below HR0_0.out HB.out)); (case side2 => exact HC0_0.out); (case side3 => exact pC (Kd.C_below HR0_1.out HB.out)); (case side4 => exact HC0_1.out); rintro e w88 ⟨v105, v108, rfl, ho0, ho1, hb⟩; refine ⟨_, rfl, ?_⟩; have HO106 := rl ho0 HB; have HO109 := rl ho1 HB; replace BK101 := bb BK101 hb; replace HB := bs HB hb; clear hb ho0 ho1) | ((with_reducible refine gate_dst (N := 5) rfl ?_); (try (refine gate_guard (by rfl) ?_; dsimp only)); refine bx 5 #[.slice none 0 0, .slice none 0 0] 25 ?_; intro gb110 hg w89 hbox hb; replace HO106 := rb HO106 hb; replace HO109 := rb HO109 hb; have BK110 := hbox; have GW110 := gs HB hg; have GE110 := gs HB hg; replace HB := bs HB hb; have NB101_110 := nl BK101 hg; have NB110_101 := nr BK101 hg; replace BK101 := bb BK101 hb; clear hb hbox hg; obtain ⟨Ao90, co90, eo90⟩ := Kd.R_slice HO106.out; subst eo90; have hnb91 := NB110_101.out; have hnc91 := NB101_110.out; obtain ⟨_, _, _, _⟩ := cf2 BK110; obtain ⟨Ao93, co93, eo93⟩ := Kd.R_slice HO109.out; subst eo93) | ((with_reducible refine gc 25 rfl ?_); refine gL 24 Tryz.func25 #[.agg #[.slice Ao90 t104.length co90, .slice Ao93 t107.length co93], .int .i64 a1] ?_; (with_reducible refine (turn_Starts.calls k _ _ t104 _ _ t107 a1 t111 t114 _ ?side1 ?side2 ?side3 ?side4 A11.out).mono ?_); (case side1 => refine (Kd.R_reads' (e := 67) (base := w.heap.size) (ok := fun k_ => True) (n := t104.length) (c := co90) ?_).2.2; exact (by refine pR ?_; exact (Kd.R_mono (Kd.R_far (p := ⟨gb110, 1, none⟩) (Kd.R_far (p := ⟨gb110, 0, none⟩) (Kd.R_types HO106.out BK110.out (by decide)) (fun _ hk => hk.2) (.slice Ao90 t104.length co90)) (fun _ hk => hk.2) (.slice Ao93 t107.length co93)) (fun _ h_ => h_.1)))); (case side2 => exact (Kd.R_reads' HO106.out).2.1); (case side3 => refine (Kd.R_reads' (e := 3) (base := w.heap.size) (ok := fun k_ => True) (n := t107.length) (c := co93) ?_).2.2; exact (by refine pR ?_; exact (Kd.R_mono (Kd.R_far (p := ⟨gb110, 1, none⟩) (Kd.R_far (p := ⟨gb110, 0, none⟩) (Kd.R_types HO109.out BK110.out (by decide)) (fun _ hk => hk.2) (.slice Ao90 t104.length co90)) (fun _ hk => hk.2) (.slice Ao93 t107.length co93)) (fun _ h_ => h_.1)))); (case side4 => exact (Kd.R_reads' HO109.out).2.1); rintro e w94 ⟨v112, rfl, ho0, hb⟩; refine ⟨_, rfl, ?_⟩; replace HO106 := Aside0.mk (Kd.R_below (by refine pR ?_; exact (Kd.R_mono (Kd.R_far (p := ⟨gb110, 1, none⟩) (Kd.R_far (p := ⟨gb110, 0, none⟩) (Kd.R_types HO106.out BK110.out (by decide)) (fun _ hk => hk.2) (.slice Ao90 t104.length co90)) (fun _ hk => hk.2) (.slice Ao93 t107.length co93)) (fun _ h_ => h_.1))) hb); replace HO109 := Aside0.mk (Kd.R_below (by refine pR ?_; exact (Kd.R_mono (Kd.R_far (p := ⟨gb110, 1, none⟩) (Kd.R_far (p := ⟨gb110, 0, none⟩) (Kd.R_types HO109.out BK110.out (by decide)) (fun _ hk => hk.2) (.slice Ao90 t104.length co90)) (fun _ hk => hk.2) (.slice Ao93 t107.length co93)) (fun _ h_ => h_.1))) hb); have HO113 := rl ho0 HB; replace BK101 := bf BK101 hb; replace BK110 := Aside0.mk (blk_below (g := gb110) (o := .cells #[.slice Ao90 t104.length co90, .slice Ao93 t107.length co93] 25 (0, 0)) (by refine pB ?_; refine blk_put (cs := #[.slice Ao90 t104.length co90, .slice none 0 0]) ?_ 1 _ rfl; refine pB ?_; refine blk_put (cs := #[.slice none 0 0, .slice none 0 0]) ?_ 0 _ rfl; exact pB BK110.out) hb); replace HB := bs HB hb; clear hb ho0; obtain ⟨_, _, _, _⟩ := cf2 BK110) | ((with_reducible refine gc 26 rfl ?_); refine gL 30 Tryz.func26 #[.agg #[.slice Ao90 t104.length co90, .slice Ao93 t107.length co93], .int .i64 a1] ?_; (with_reducible refine (turn_Waits.calls k _ _ t104 _ _ t107 a1 t115 t116 t117 _ ?side1 ?side2 ?side3 ?side4 A12.out).mono ?_); (case side1 => exact pC (Kd.R_reads' HO106.out).2.2); (case side2 => exact (Kd.R_reads' HO106.out).2.1); (case side3 => exact pC (Kd.R_reads' HO109.out).2.2); (case side4 => exact (Kd.R_reads' HO109.out).2.1); rintro e w96 ⟨rfl, hb⟩; refine ⟨_, rfl, ?_⟩; replace HO106 := rb HO106 hb; replace HO109 := rb HO109 hb; replace HO113 := rb HO113 hb; replace BK101 := bb BK101 hb; replace BK110 := bb BK110 hb; replace HB := bs HB hb; clear hb; obtain ⟨_, _, _, _⟩ := cf2 BK110) | ((with_reducible refine gc 27 rfl ?_); refine gL 37 Tryz.func27 #[.agg #[.slice Ao90 t104.length co90, .slice Ao93 t107.length co93], .int .i64 a1] ?_; (with_reducible refine (turn_Ends.calls k _ _ t104 _ _ t107 a1 t118 t119 t120 _ ?side1 ?side2 ?side3 ?side4 A13.out).mono ?_); (case side1 => exact pC (Kd.R_reads' HO106.out).2.2); (case side2 => exact (Kd.R_reads' HO106.out).2.1); (case side3 => exact pC (Kd.R_reads' HO109.out).2.2); (case side4 => exact (Kd.R_reads' HO109.out).2.1); rintro e w98 ⟨rfl, hb⟩; refine ⟨_, rfl, ?_⟩; replace HO106 := rb HO106 hb; replace HO109 := rb HO109 hb; replace HO113 := rb HO113 hb; replace BK101 := bb BK101 hb; replace BK110 := bb BK110 hb; replace HB := bs HB hb; clear hb) | ((with_reducible refine gate_dst (N := 11) rfl ?_); (try (refine gate_guard (by rfl) ?_; dsimp only)); refine bx 11 #[.int .i64 0, .int .i64 0] 42 ?_; intro gb121 hg w99 hbox hb; replace HO106 := rb HO106 hb; replace HO109 := rb HO109 hb; replace HO113 := Aside0.mk (Kd.R_below (Kd.R_elderB (pR HO113.out) gb121 (Nat.le_of_eq hg.symm)) hb); have BK121 := hbox; have GW121 := gs HB hg; have GE121 := gs HB hg; replace HB := bs HB hb; have NB101_121 := nl BK101 hg; have NB121_101 := nr BK101 hg; replace BK101 := bb BK101 hb; have NB110_121 := nl BK110 hg; have NB121_110 := nr BK110 hg; replace BK110 := bb BK110 hb; clear hb hbox hg; have hnb100 := NB121_101.out; have hnc100 := NB101_121.out; have hnb101 := NB121_110.out; have hnc101 := NB110_121.out; obtain ⟨_, _, _, _⟩ := cf2 BK121; obtain ⟨_, _, _, _⟩ := cf2 BK110; obtain ⟨_, _, _, _⟩ := cf2 BK101) | ((with_reducible refine gc 22 rfl ?_); refine gL 42 Tryz.func22 #[.agg #[.slice Ao90 t104.length co90, .slice Ao93 t107.length co93], .agg #[.slice A0_0 l0_0.length c0_0, .slice A0_1 l0_1.length c0_1]] ?_; (with_reducible refine (walkmillref04_Same.calls k _ _ t104 _ _ t107 _ _ l0_0 _ _ l0_1 true _ ?side1 ?side2 ?side3 ?side4 ?side5 ?side6 ?side7 ?side8 A14.out).mono ?_); (case side1 => refine (Kd.R_reads' (e := 67) (base := w.heap.size) (ok := fun k_ => True) (n := t104.length) (c := co90) ?_).2.2; exact (by refine pR ?_; exact (Kd.R_mono (Kd.R_far (p := ⟨gb121, 1, none⟩) (Kd.R_far (p := ⟨gb121, 0, none⟩) (Kd.R_types HO106.out BK121.out (by decide)) (fun _ hk => hk.2) (.int .i64 t118)) (fun _ hk => hk.2) (.int .i64 t119)) (fun _ h_ => h_.1)))); (case side2 => exact (Kd.R_reads' HO106.out).2.1); (case side3 => refine (Kd.R_reads' (e := 3) (base := w.heap.size) (ok := fun k_ => True) (n := t107.length) (c := co93) ?_).2.2; exact (by refine pR ?_; exact (Kd.R_mono (Kd.R_far (p := ⟨gb121, 1, none⟩) (Kd.R_far (p := ⟨gb121, 0, none⟩) (Kd.R_types HO109.out BK121.out (by decide)) (fun _ hk => hk.2) (.int .i64 t118)) (fun _ hk => hk.2) (.int .i64 t119)) (fun _ h_ => h_.1)))); (case side4 => exact (Kd.R_reads' HO109.out).2.1); (case side5 => exact Kd.C_below HR0_0.out (pE HB)); (case side6 => exact HC0_0.out); (case side7 => exact Kd.C_below HR0_1.out (pE HB)); (case side8 => exact HC0_1.out); rintro e w105 ⟨rfl, hb⟩; refine ⟨_, rfl, ?_⟩; replace HO106 := Aside0.mk (Kd.R_below (by refine pR ?_; exact (Kd.R_mono (Kd.R_far (p := ⟨gb121, 1, none⟩) (Kd.R_far (p := ⟨gb121, 0, none⟩) (Kd.R_types HO106.out BK121.out (by decide)) (fun _ hk => hk.2) (.int .i64 t118)) (fun _ hk => hk.2) (.int .i64 t119)) (fun _ h_ => h_.1))) hb); replace HO109 := Aside0.mk (Kd.R_below (by refine pR ?_; exact (Kd.R_mono (Kd.R_far (p := ⟨gb121, 1, none⟩) (Kd.R_far (p := ⟨gb121, 0, none⟩) (Kd.R_types HO109.out BK121.out (by decide)) (fun _ hk => hk.2) (.int .i64 t118)) (fun _ hk => hk.2) (.int .i64 t119)) (fun _ h_ => h_.1))) hb); replace HO113 := Aside0.mk (Kd.R_below (by refine pR ?_; exact (Kd.R_mono (Kd.R_far (p := ⟨gb121, 1, none⟩) (Kd.R_far (p := ⟨gb121, 0, none⟩) (Kd.R_mono HO113.out (fun k_ hk => (⟨hk, hk.2⟩ : _ ∧ k_ ≠ gb121))) (fun _ hk => hk.2) (.int .i64 t118)) (fun _ hk => hk.2) (.int .i64 t119)) (fun _ h_ => h_.1))) hb); replace BK101 := bf BK101 hb; replace BK110 := bf BK110 hb; replace BK121 := Aside0.mk (blk_below (g := gb121) (o := .cells #[.int .i64 t118, .int .i64 t119] 42 (0, 0)) (by refine pB ?_; refine blk_put (cs := #[.int .i64 t118, .int .i64 0]) ?_ 1 _ rfl; refine pB ?_; refine blk_put (cs := #[.int .i64 0, .int .i64 0]) ?_ 0 _ rfl; exact pB BK121.out) hb); replace HB := bs HB hb; clear hb; obtain ⟨_, _, _, _⟩ := cf2 BK101) | ((with_reducible refine gc 28 rfl ?_); refine gL 46 Tryz.func28 #[.agg #[.slice A0_0 l0_0.length c0_0, .slice A0_1 l0_1.length c0_1], .int .i64 a1, .int .i64 0] ?_; (with_reducible refine (walkmillref04_Open.calls k _ _ l0_0 _ _ l0_1 a1 0 t123 _ ?side1 ?side2 ?side3 ?side4 A16.out).mono ?_); (case side1 => exact pC (Kd.C_below HR0_0.out HB.out)); (case side2 => exact HC0_0.out); (case side3 => exact pC (Kd.C_below HR0_1.out HB.out)); (case side4 => exact HC0_1.out); rintro e w107 ⟨rfl, hb⟩; refine ⟨_, rfl, ?_⟩; replace HO106 := rb HO106 hb; replace HO109 := rb HO109 hb; replace HO113 := rb HO113 hb; replace BK101 := bb BK101 hb; replace BK110 := bb BK110 hb; replace BK121 := bb BK121 hb; replace HB := bs HB hb; clear hb; obtain ⟨Ao108, co108, eo108⟩ := Kd.R_slice HO113.out; subst eo108; obtain ⟨_, _, _, _⟩ := cf2 BK121) | (go_at_call 17; (with_reducible refine (walkmilllaw04_known.calls  t124 _ A83.out).mono ?_); rintro e w110 ⟨rfl, hb⟩; replace HO106 := rb HO106 hb; replace HO109 := rb HO109 hb; replace HO113 := rb HO113 hb; replace BK101 := bb BK101 hb; replace BK110 := bb BK110 hb; replace BK121 := bb BK121 hb; replace HB := bs HB hb; (try clear hb); (try clear hb2); (try clear hk); (try clear hi)))
           go_ret
           exact ⟨eT, pE HB⟩
          ·rw [if_neg c82] at H
           have c82b0 : (t118 == 0 && (t119 == 0)) = false := by simpa using c82
           (try (have c82b1 : decide (t118 = 0 && (t119 == 0)) = false := by simpa using c82))
           (try (have c82b2 : (t118 == 0 && (t119 == 0)) = false := by simpa using c82))
           (try (have c82b3 : ¬ (t118 = 0 && (t119 == 0)) := by simpa using c82))
           clear c82
           exact absurd ((Option.some.inj H).trans HRT.out) (by simp)
         ·rw [if_neg c81] at H
          have c81b0 : (t116 == 0) = false := beq_eq_false_iff_ne.mpr c81
          have c81b1 : (t116 != 0) = true := bne_iff_ne.mpr c81
          exact absurd ((Option.some.inj H).trans HRT.out) (by simp)
        ·rw [if_neg c80] at H
         have c80b0 : (t115 == 0) = false := beq_eq_false_iff_ne.mpr c80
         have c80b1 : (t115 != 0) = true := bne_iff_ne.mpr c80
         exact absurd ((Option.some.inj H).trans HRT.out) (by simp)
       ·rw [if_neg c79] at H
        have c79b0 : ((t111.length : Int) == 0) = false := beq_eq_false_iff_ne.mpr c79
        have c79b1 : ((t111.length : Int) != 0) = true := bne_iff_ne.mpr c79
        have c79b2 : ¬ (t111 = []) := fun h_ => c79 (by rw [h_]; rfl)
        exact absurd ((Option.some.inj H).trans HRT.out) (by simp)
      ·rw [if_neg c78] at H
       have c78b0 : (t120 == t123) = false := beq_eq_false_iff_ne.mpr c78
       have c78b1 : (t120 != t123) = true := bne_iff_ne.mpr c78
       exact absurd ((Option.some.inj H).trans HRT.out) (by simp)
     ·rw [if_neg c77] at H
      have c77b0 : (t117 == t123) = false := beq_eq_false_iff_ne.mpr c77
      have c77b1 : (t117 != t123) = true := bne_iff_ne.mpr c77
      exact absurd ((Option.some.inj H).trans HRT.out) (by simp)
    ·rw [if_neg c76] at H
     have c76b0 : (t114 == t123) = false := beq_eq_false_iff_ne.mpr c76
     have c76b1 : (t114 != t123) = true := bne_iff_ne.mpr c76
     exact absurd ((Option.some.inj H).trans HRT.out) (by simp)
  ·replace c15 := Bool.eq_false_iff.mpr c15
   subst c15
   rw [if_neg (show ¬ (false = true) by decide)] at H
   exact absurd ((Option.some.inj H).trans HRT.out) (by simp)
end Go.Proofs.YtlmglnobdcgbeaaGreat.P
namespace Go.Proofs.YtlmglnobdcgbeaaGreat.P
open Go.RowKit Go.Proofs.YtlmglnobdcgbeaaGreatW.PrintWords Go.Proofs.YtlmglnobdcgbeaaGreatW.PrintLast Go.Proofs.YtlmglnobdcgbeaaGreatW.PrintMore
theorem valid_m {cl : List S67} {rk : List Int} {M E : Int} (h : E = 0) (hE : (if chk cl rk = 0 then (if (isIn 1 5 M && isIn 0 500 0) = true then 0 else 3) else chk cl rk : Int) = E) : Valid cl rk ∧ ∃ m : Nat, M = m ∧ 1 ≤ m ∧ m ≤ 5 := by
  subst h
  have hc : chk cl rk = 0 := by
    by_cases h : chk cl rk = 0
    · exact h
    · rw [if_neg h] at hE; exact hE
  have hb : (isIn 1 5 M && isIn 0 500 0) = true := by
    rw [if_pos hc] at hE
    by_cases h : (isIn 1 5 M && isIn 0 500 0) = true
    · exact h
    · rw [if_neg h] at hE; cases hE
  simp only [isIn, Bool.and_eq_true, decide_eq_true_eq] at hb
  exact ⟨valid_of hc, M.toNat, by omega, by omega, by omega⟩
theorem wait0 {cl : List S67} {rk : List Int} (v : Valid cl rk) (m : Nat) (hm : 1 ≤ m) (x : Int) (hx : 0 ≤ x ∧ x < (cl.length : Int)) (xs : List Int) : ∃ r, waitsL cl (x :: xs) m = (x, 0) :: r := by
  unfold waitsL
  rw [Int.toNat_natCast]
  obtain ⟨m, rfl⟩ : ∃ q, m = q + 1 := ⟨m - 1, by omega⟩
  have ok := cl_ok v x.toNat (by omega)
  rw [show ((x.toNat : Nat) : Int) = x by omega] at ok
  have e : takenT cl (List.replicate (m + 1) 0) x = (rd_T67 cl x).f1 := by
    unfold takenT
    have : rd (List.replicate (m + 1) 0) 0 = 0 := rfl
    rw [this]; unfold mx; split <;> omega
  rw [runT, List.map_cons]
  refine ⟨_, congrArg (fun z => z :: _) ?_⟩
  show (x, wrap64 (takenT cl (List.replicate (m + 1) 0) x - (rd_T67 cl x).f1)) = (x, 0)
  rw [e, w64_of (by omega) (by omega), Int.sub_self]
def woA (cl : List S67) (rk : List Int) (m : Nat) : Int × Int := (waitsL cl (ordA cl rk) m).foldl worstW (0, -1)
theorem worst_first (x : Int) (r : List (Int × Int)) (z : Int × Int) (hz : z.2 < 0) : ((x, (0 : Int)) :: r).foldl worstW z = r.foldl worstW (x, 0) := by
  rw [List.foldl_cons]
  congr 1
  exact if_pos (show (0 : Int) > z.2 by omega)
theorem worst_fst (P : Int → Prop) : ∀ (ws : List (Int × Int)) (z : Int × Int), P z.1 → (∀ t ∈ ws, P t.1) → P (ws.foldl worstW z).1
  | [], _, h, _ => h
  | t :: ws, z, h, hw => by
    rw [List.foldl_cons]
    refine worst_fst P ws _ ?_ (fun s hs => hw s (by simp [hs]))
    unfold worstW
    split
    · exact hw t (by simp)
    · exact h
theorem waits_in {cl : List S67} {rk : List Int} (m : Int) : ∀ t ∈ waitsL cl (ordA cl rk) m, 0 ≤ t.1 := by
  intro t ht
  unfold waitsL at ht
  obtain ⟨u, hu, rfl⟩ := List.mem_map.1 ht
  exact (ordA_in u.1 (runT_in _ _ _ _ u hu)).1
theorem worst_both {cl : List S67} {rk : List Int} (v : Valid cl rk) (m : Nat) (hm : 1 ≤ m) (hne : 0 < cl.length) : (waitsL cl (ordA cl rk) m).foldl worstF (-1, -1) = woA cl rk m ∧ 0 ≤ (woA cl rk m).1 := by
  have hol := ordA_len cl rk
  have hwi := waits_in (cl := cl) (rk := rk) (m : Int)
  unfold woA
  obtain ⟨x, xs, ho⟩ : ∃ x xs, ordA cl rk = x :: xs := by
    cases h : ordA cl rk with
    | nil => rw [h] at hol; simp at hol; omega
    | cons x xs => exact ⟨x, xs, rfl⟩
  have hx := ordA_in (cl := cl) (rk := rk) x (by rw [ho]; simp)
  rw [ho] at hwi ⊢
  obtain ⟨r, hr⟩ := wait0 v m hm x hx xs
  rw [hr] at hwi ⊢
  have e : worstF = worstW := rfl
  rw [e, worst_first x r _ (by decide), worst_first x r _ (by decide)]
  exact ⟨rfl, worst_fst (fun y => 0 ≤ y) r (x, 0) hx.1 (fun t ht => hwi t (by simp [ht]))⟩
theorem tStarts_k (cl : List S67) (rk : List Int) (M : Int) (k : Nat) (hk : 1300 < k) (hl : cl.length ≤ 20) (hr : rk.length ≤ 10) (E : Int) (hE : (if chk cl rk = 0 then (if (isIn 1 5 M && isIn 0 500 0) = true then 0 else 3) else chk cl rk : Int) = E) :
    turn_Starts.f k cl rk M = if E = 0 then some (stA cl rk M.toNat, 0) else some ([], E) := by
  unfold turn_Starts.f
  rw [open_eq cl rk (by omega) M 0 k (by omega), Option.bind_some]
  simp only []
  rw [hE]
  by_cases h : E = 0
  · rw [if_pos h, if_pos h]
    obtain ⟨v, m, rfl, hm, hm2⟩ := valid_m h hE
    rw [if_pos (by omega), if_pos (by omega), dayOrder_eq v k (by omega), Option.bind_some]
    unfold startsO
    rw [if_pos (okT_yes cl _ ordA_in m hm (by omega)), Option.bind_some]
    unfold stA
    rfl
  · rw [if_neg h, if_neg h]
theorem tWaits_k (cl : List S67) (rk : List Int) (M : Int) (k : Nat) (hk : 1300 < k) (hl : cl.length ≤ 20) (hr : rk.length ≤ 10) (E : Int) (hE : (if chk cl rk = 0 then (if (isIn 1 5 M && isIn 0 500 0) = true then 0 else 3) else chk cl rk : Int) = E) :
    turn_Waits.f k cl rk M = if E = 0 then (if cl.length = 0 then some (0, 0, 7) else some ((woA cl rk M.toNat).1, (woA cl rk M.toNat).2, 0)) else some (0, 0, E) := by
  unfold turn_Waits.f
  rw [open_eq cl rk (by omega) M 0 k (by omega), Option.bind_some]
  simp only []
  rw [hE]
  by_cases h : E = 0
  · rw [if_pos h, if_pos h]
    obtain ⟨v, m, rfl, hm, hm2⟩ := valid_m h hE
    by_cases h0 : cl.length = 0
    · rw [if_pos (by omega), if_pos h0]
    · rw [if_neg (by omega), if_neg h0, dayOrder_eq v k (by omega), Option.bind_some]
      unfold waitsO
      rw [if_pos (okT_yes cl _ ordA_in m hm (by omega)), Option.bind_some]
      unfold woA
      rw [Int.toNat_natCast]
  · rw [if_neg h, if_neg h]
theorem tEnds_k (cl : List S67) (rk : List Int) (M : Int) (k : Nat) (hk : 1300 < k) (hl : cl.length ≤ 20) (hr : rk.length ≤ 10) (E : Int) (hE : (if chk cl rk = 0 then (if (isIn 1 5 M && isIn 0 500 0) = true then 0 else 3) else chk cl rk : Int) = E) :
    turn_Ends.f k cl rk M = if E = 0 then some (endA lowF cl rk M.toNat, endA highF cl rk M.toNat, 0) else some (0, 0, E) := by
  unfold turn_Ends.f
  rw [open_eq cl rk (by omega) M 0 k (by omega), Option.bind_some]
  simp only []
  rw [hE]
  by_cases h : E = 0
  · rw [if_pos h, if_pos h]
    obtain ⟨v, m, rfl, hm, hm2⟩ := valid_m h hE
    rw [dayOrder_eq v k (by omega), Option.bind_some]
    unfold endsO
    rw [if_pos (okT_yes cl _ ordA_in m hm (by omega)), Option.bind_some]
    rfl
  · rw [if_neg h, if_neg h]
theorem Takes_k (cl : List S67) (rk : List Int) (M : Int) (k : Nat) (hk : 3000 < k) : walkmilllaw04_TurnTakes.f k cl rk M = some true := by
  unfold walkmilllaw04_TurnTakes.f
  rw [long_eq, Option.bind_some]
  by_cases hl : 20 < cl.length ∨ 10 < rk.length
  · have e : (decide (20 < cl.length) || decide (10 < rk.length)) = true := by simpa using hl
    rw [e, if_pos rfl]
    rfl
  have e : (decide (20 < cl.length) || decide (10 < rk.length)) = false := by simpa using hl
  rw [e, if_neg (by simp), copy_eq cl rk (by omega) (by omega), Option.bind_some]
  obtain ⟨k, rfl⟩ : ∃ q, k = q + 1 := ⟨k - 1, by omega⟩
  generalize hE : (if chk cl rk = 0 then (if (isIn 1 5 M && isIn 0 500 0) = true then 0 else 3) else chk cl rk : Int) = E
  simp only []
  rw [tStarts_k cl rk M (k + 1) (by omega) (by omega) (by omega) E hE, tWaits_k cl rk M (k + 1) (by omega) (by omega) (by omega) E hE, tEnds_k cl rk M (k + 1) (by omega) (by omega) (by omega) E hE, rOpen_eq cl rk (by omega) (by omega) M 0 (k + 1) (by omega), hE, rSame_eq (k + 1) cl rk (by omega) (by omega) (by omega)]
  by_cases h : E = 0
  · obtain ⟨v, m, rfl, hm, hm2⟩ := valid_m h hE
    have h10 := v.c10
    have hol := ordA_len cl rk
    have hmul : (m + 2) * (ordA cl rk).length ≤ 7 * 10 := Nat.mul_le_mul (by omega) (by omega)
    have hw := worst_eq cl rk (by omega) (ordA cl rk) (by omega) ordA_in m hm (by omega) k (by omega)
    rw [Int.toNat_natCast]
    have fin : ∀ a b c : Int, (∀ z, (waitsL cl (ordA cl rk) m).foldl worstF (-1, -1) = z → (if z.1 < 0 then c = 7 ∧ a = 0 ∧ b = 0 else c = 0 ∧ a = z.1 ∧ b = z.2)) → walkmilllaw04_TurnTakes.j0 (k + 1) m a b c false cl rk = some true := fun a b c hz => by
      rw [walkmilllaw04_TurnTakes.j0, if_neg (by simp), rOrder_eq v k (by omega), Option.bind_some, hw, Option.bind_some]
      have hz := hz _ rfl
      generalize (waitsL cl (ordA cl rk) m).foldl worstF (-1, -1) = z at hz ⊢
      by_cases hn : z.1 < 0
      · rw [if_pos hn] at hz ⊢
        obtain ⟨rfl, rfl, rfl⟩ := hz
        rfl
      · rw [if_neg hn] at hz ⊢
        obtain ⟨rfl, rfl, rfl⟩ := hz
        rw [if_pos rfl, if_pos rfl, if_pos rfl]; rfl
    rw [if_pos h, if_pos h, if_pos h, Option.bind_some]
    by_cases h0 : cl.length = 0
    · rw [if_pos h0, Option.bind_some, Option.bind_some, Option.bind_some, if_pos rfl, Option.bind_some, if_pos h, if_pos rfl, if_pos rfl, rStarts_eq v m hm hm2 (k + 1) (by omega), Option.bind_some, spans_eq _ (by rw [stA_len]; omega) (k + 1) (by rw [stA_len]; omega), Option.bind_some, if_pos rfl, rEnds_eq v m hm hm2 (k + 1) (by omega), Option.bind_some]
      have ef : (!(endA lowF cl rk m == endA lowF cl rk m) || !(endA highF cl rk m == endA highF cl rk m)) = false := by simp
      rw [ef]
      refine fin 0 0 7 fun z hz => ?_
      have hnil : ordA cl rk = [] := List.length_eq_zero_iff.1 (by omega)
      rw [hnil] at hz
      subst hz
      have e0 : (waitsL cl [] (m : Int)).foldl worstF (-1, -1) = (-1, -1) := rfl
      rw [e0, if_pos (by decide)]
      exact ⟨rfl, rfl, rfl⟩
    · obtain ⟨w1, w2⟩ := worst_both v m hm (by omega)
      rw [if_neg h0, Option.bind_some, Option.bind_some, Option.bind_some, if_pos rfl, Option.bind_some, if_pos h, if_pos rfl, if_pos rfl, rStarts_eq v m hm hm2 (k + 1) (by omega), Option.bind_some, spans_eq _ (by rw [stA_len]; omega) (k + 1) (by rw [stA_len]; omega), Option.bind_some, if_pos rfl, rEnds_eq v m hm hm2 (k + 1) (by omega), Option.bind_some]
      have ef : (!(endA lowF cl rk m == endA lowF cl rk m) || !(endA highF cl rk m == endA highF cl rk m)) = false := by simp
      rw [ef]
      refine fin _ _ 0 fun z hz => ?_
      rw [w1] at hz
      subst hz
      rw [if_neg (by omega)]
      exact ⟨rfl, rfl, rfl⟩
  · rw [if_neg h, if_neg h, if_neg h, Option.bind_some, Option.bind_some, Option.bind_some, Option.bind_some, if_pos rfl, Option.bind_some, if_neg h, if_pos rfl, if_pos rfl, if_pos rfl]
    rfl
theorem TurnTakes_yes (cl : List S67) (rk : List Int) (M : Int) : ∃ k, walkmilllaw04_TurnTakes.f k cl rk M = some true := ⟨3001, Takes_k cl rk M 3001 (by omega)⟩
end Go.Proofs.YtlmglnobdcgbeaaGreat.P
namespace Go.Proofs.YtlmglnobdcgbeaaGreat.P
open Go.RowKit Go.ChangeShapes Go.WideShapes Go.Deep Go.Proofs.YtlmglnobdcgbeaaGreatW.PrintWords Go.Proofs.YtlmglnobdcgbeaaGreatW.PrintLast Go.Proofs.YtlmglnobdcgbeaaGreatW.PrintMore
structure Opens {α : Type} (P : Program) (d : Kd α) (t : TypeId) (B : α → Prop) : Prop where
  sz : P.cellsOf t = d.sz
  op : ∀ (H : Type) (enc : TypeId × Value → H) (w : World) (base : Nat) (spare : Nat → Bool) (held : Bool) (n : Nat) (cs : List Value) (x : DataW H × List MemPlace), DataW.trod enc P w base spare held n t cs = some x → ∃ p, d.K w p cs ∧ B p
theorem Opens.int {P : Program} {t : TypeId} {k : IntKind} (ht : P.underlying t = some (.int k)) (hc : P.cellsOf t = 1) : Opens P (Kd.int k) t (fun n => (Lit.int k n).wf = true) :=
  ⟨hc, fun H enc w base spare held n cs x h => by
    obtain ⟨m, rfl, _, hw⟩ := DataW.trod_int ht h
    exact ⟨m, rfl, hw⟩⟩
theorem Opens.bool {P : Program} {t : TypeId} (ht : P.underlying t = some .bool) (hc : P.cellsOf t = 1) : Opens P Kd.bool t (fun _ => True) :=
  ⟨hc, fun H enc w base spare held n cs x h => by
    obtain ⟨b, rfl, _⟩ := DataW.trod_bool ht h
    exact ⟨b, rfl, trivial⟩⟩
theorem Opens.imp {α : Type} {P : Program} {d : Kd α} {t : TypeId} {B B' : α → Prop} (h : Opens P d t B) (hb : ∀ x, B x → B' x) : Opens P d t B' :=
  ⟨h.sz, fun H enc w base spare held n cs x hx => by obtain ⟨p, h1, h2⟩ := h.op H enc w base spare held n cs x hx; exact ⟨p, h1, hb p h2⟩⟩
theorem choose_list {α : Type} {Q : Nat → α → Prop} : ∀ (n : Nat), (∀ i, i < n → ∃ p, Q i p) → ∃ l : List α, l.length = n ∧ ∀ i p, l[i]? = some p → Q i p
  | 0, _ => ⟨[], rfl, fun i p h => by simp at h⟩
  | n + 1, h => by
    obtain ⟨l, hl, hq⟩ := choose_list n (fun i hi => h i (by omega))
    obtain ⟨p, hp⟩ := h n (by omega)
    refine ⟨l ++ [p], by simp [hl], fun i q hi => ?_⟩
    rcases Nat.lt_or_ge i l.length with h1 | h1
    · rw [List.getElem?_append_left h1] at hi
      exact hq i q hi
    · have : i = n := by
        have := (List.getElem?_eq_some_iff.1 hi).1
        simp at this
        omega
      subst this
      rw [List.getElem?_append_right h1, hl, Nat.sub_self] at hi
      obtain rfl : p = q := by simpa using hi
      exact hp
theorem Opens.slice {α : Type} {P : Program} {d : Kd α} {t e : TypeId} {B : α → Prop} (h : Opens P d e B) (ht : P.underlying t = some (.slice e)) (hc : P.cellsOf t = 1) : Opens P (Kd.slice e d) t (fun l => ∀ x ∈ l, B x) :=
  ⟨hc, fun H enc w base spare held n cs x hx => by
    rcases open_slice ht hx with ⟨rfl, _⟩ | ⟨a, len, cap, m, n', D, Pl, rfl, hb, hl, hm, hmm, _, hi⟩
    · exact ⟨[], ⟨none, 0, rfl, Nat.le_refl _, Kd.C_nil _ _⟩, fun x hx => by cases hx⟩
    · obtain ⟨l, hll, hq⟩ := choose_list (Q := fun i p => (∃ cs', d.K w p cs' ∧ ∀ j, j < d.sz → w.cell? (a.add (i * d.sz + j)) = cs'[j]?) ∧ B p) len (fun i hi' => by
        obtain ⟨cs', hcs, htr⟩ := hi i (by rw [hmm]; split <;> omega)
        obtain ⟨p, hk, hp⟩ := h.op H enc w base spare held n' cs' _ htr
        obtain ⟨_, hcl, hat⟩ := World.cells?_some hcs
        rw [h.sz] at hat
        exact ⟨p, ⟨cs', hk, fun j hj => by
          have := hat j hj
          rw [Go.Deep.add_add] at this
          exact this⟩, hp⟩)
      refine ⟨l, ⟨some a, cap, by rw [hll], by rw [hll]; exact hl, ⟨rfl, by rw [hll]; simp only [maxLen] at hm; omega, fun h0 => ⟨a, rfl, fun j p hj => ?_⟩⟩⟩, fun x hx => ?_⟩
      · obtain ⟨⟨cs', hk, hat⟩, _⟩ := hq j p hj
        refine ⟨cs', d.K_len hk, hk, fun i u hu => ?_⟩
        have hi' : i < d.sz := by have := (List.getElem?_eq_some_iff.1 hu).1; rw [d.K_len hk] at this; exact this
        rw [hat i hi', hu]
      · obtain ⟨i, hi'⟩ := List.getElem?_of_mem hx
        exact (hq i x hi').2⟩
def OpensS {α : Type} (P : Program) (fs : Array Field) (j off : Nat) (d : Kd α) (B : α → Prop) : Prop :=
  ∀ (H : Type) (enc : TypeId × Value → H) (w : World) (base : Nat) (spare : Nat → Bool) (held : Bool) (n : Nat) (cs : List Value) (xs : List (DataW H × List MemPlace)), xs.length = fs.size →
    (∀ (i : Nat) (f : Field), fs[i]? = some f → DataW.trod enc P w base spare held n f.type ((cs.drop f.offset).take (P.cellsOf f.type)) = xs[i]?) → ∃ p, d.K w p ((cs.drop off).take d.sz) ∧ B p
theorem OpensS.one {α : Type} {P : Program} {fs : Array Field} {j off : Nat} {d : Kd α} {B : α → Prop} (f : Field) (hf : fs[j]? = some f) (ho : f.offset = off) (h : Opens P d f.type B) : OpensS P fs j off d B := by
  intro H enc w base spare held n cs xs hl hx
  have h1 := hx j f hf
  have hj : j < xs.length := by rw [hl]; exact (Array.getElem?_eq_some_iff.1 hf).1
  rw [List.getElem?_eq_getElem hj, ho, h.sz] at h1
  exact h.op H enc w base spare held n _ _ h1
theorem OpensS.cons {α β : Type} {P : Program} {fs : Array Field} {j off : Nat} {d : Kd α} {d' : Kd β} {B : α → Prop} {B' : β → Prop} (h : OpensS P fs j off d B) (h' : OpensS P fs (j + 1) (off + d.sz) d' B') : OpensS P fs j off (Kd.pair d d') (fun p => B p.1 ∧ B' p.2) := by
  intro H enc w base spare held n cs xs hl hx
  obtain ⟨p, h1, h2⟩ := h H enc w base spare held n cs xs hl hx
  obtain ⟨q, h3, h4⟩ := h' H enc w base spare held n cs xs hl hx
  refine ⟨(p, q), ⟨_, _, ?_, h1, h3⟩, h2, h4⟩
  show (cs.drop off).take (d.sz + d'.sz) = _
  rw [List.take_add, List.drop_drop]
theorem OpensS.iso {α β : Type} {P : Program} {fs : Array Field} {j off : Nat} {d : Kd α} {B : α → Prop} (h : OpensS P fs j off d B) (f : β → α) (g : α → β) (hg : ∀ a, f (g a) = a) : OpensS P fs j off (Kd.iso d f) (fun y => B (f y)) := by
  intro H enc w base spare held n cs xs hl hx
  obtain ⟨p, h1, h2⟩ := h H enc w base spare held n cs xs hl hx
  exact ⟨g p, by show d.K w (f (g p)) _; rw [hg]; exact h1, by show B (f (g p)); rw [hg]; exact h2⟩
theorem Opens.struct {α : Type} {P : Program} {fs : Array Field} {d : Kd α} {t : TypeId} {B : α → Prop} (h : OpensS P fs 0 0 d B) (ht : P.underlying t = some (.struct fs)) (hc : P.cellsOf t = d.sz) : Opens P d t B :=
  ⟨hc, fun H enc w base spare held n cs x hx => by
    obtain ⟨xs, n', _, _, hcl, hl, hf⟩ := DataW.trod_struct ht hx
    obtain ⟨p, h1, h2⟩ := h H enc w base spare held n' cs xs hl hf
    refine ⟨p, ?_, h2⟩
    rw [List.drop_zero, List.take_of_length_le (by rw [hcl, hc]; exact Nat.le_refl _)] at h1
    exact h1⟩
theorem Opens.array {α : Type} {P : Program} {fs : Array Field} {d : Kd α} {t e : TypeId} {n : Nat} {B : α → Prop} (h : OpensS P fs 0 0 d B) (ht : P.underlying t = some (.array n e)) (hc : P.cellsOf t = d.sz) (he : P.cellsOf e = 1) (hn : fs.size = n) (hf : ∀ i : Fin fs.size, fs[i].type = e ∧ fs[i].offset = i.val) : Opens P d t B :=
  ⟨hc, fun H enc w base spare held n' cs x hx => by
    obtain ⟨xs, m, _, _, hcl, hl, hg⟩ := DataW.trod_array ht hx
    obtain ⟨p, h1, h2⟩ := h H enc w base spare held m cs xs (by rw [hl, hn]) (fun i f hi => by
      obtain ⟨hi', rfl⟩ := Array.getElem?_eq_some_iff.1 hi
      obtain ⟨e1, e2⟩ := hf ⟨i, hi'⟩
      have e1' : fs[i].type = e := e1
      have e2' : fs[i].offset = i := e2
      have := hg i (by rw [← hn]; exact hi')
      rw [he, Nat.mul_one] at this
      rw [e1', e2', he]; exact this)
    refine ⟨p, ?_, h2⟩
    rw [List.drop_zero, List.take_of_length_le (by rw [hcl, hc]; exact Nat.le_refl _)] at h1
    exact h1⟩
theorem Opens.arg {α : Type} {P : Program} {d : Kd α} {t : TypeId} {B : α → Prop} (h : Opens P d t B) {H : Type} {enc : TypeId × Value → H} {w : World} {base : Nat} {spare : Nat → Bool} {held : Bool} {v : Value} {x : DataW H} {ps : List MemPlace} (hx : DataW.Trod enc P w base spare held t v x ps) :
    ∃ p : α, d.K w p v.cells.toList ∧ B p := by
  obtain ⟨n, hn⟩ := hx
  exact h.op H enc w base spare held n _ _ hn
theorem agg_cells {v : Value} {l : List Value} (h : v.cells.toList = l) (hl : 2 ≤ l.length) : v = .agg l.toArray := by
  cases v with
  | agg x => simp only [Value.cells] at h; rw [← h]
  | _ => simp only [Value.cells] at h; subst h; simp at hl
end Go.Proofs.YtlmglnobdcgbeaaGreat.P
namespace Go.Proofs.YtlmglnobdcgbeaaGreat.P
open Go.RowKit Go.Proofs.YtlmglnobdcgbeaaGreatW.PrintWords
def IsK (k : IntKind) (n : Int) : Prop := (Lit.int k n).wf = true
theorem O_i64 : Opens Tryz.prog (Kd.int .i64) 3 (IsK .i64) := Opens.int Tryz.underlying3 (by kernel_rfl)
def B42 (x : S42) : Prop := (IsK .i64) x.f0 ∧ (IsK .i64) x.f1
theorem O42 : Opens Tryz.prog k42 42 B42 := by
  refine Opens.struct ?_ Tryz.underlying42 (by kernel_rfl)
  refine OpensS.iso (d := (Kd.pair (Kd.int .i64) (Kd.int .i64))) (B := fun p => (IsK .i64) p.1 ∧ (IsK .i64) p.2) ?_ (fun x : S42 => (x.f0, x.f1)) (fun p => ⟨p.1, p.2⟩) (fun _ => rfl)
  refine OpensS.cons (B := IsK .i64) (B' := fun p : Int => (IsK .i64) p) ?_ ?_
  · exact OpensS.one _ rfl rfl O_i64
  exact OpensS.one _ rfl rfl O_i64
def B67 (x : S67) : Prop := (IsK .i64) x.f0 ∧ (IsK .i64) x.f1 ∧ (B42) x.f2
theorem O67 : Opens Tryz.prog k67 67 B67 := by
  refine Opens.struct ?_ Tryz.underlying67 (by kernel_rfl)
  refine OpensS.iso (d := (Kd.pair (Kd.int .i64) (Kd.pair (Kd.int .i64) k42))) (B := fun p => (IsK .i64) p.1 ∧ (IsK .i64) p.2.1 ∧ (B42) p.2.2) ?_ (fun x : S67 => (x.f0, x.f1, x.f2)) (fun p => ⟨p.1, p.2.1, p.2.2⟩) (fun _ => rfl)
  refine OpensS.cons (B := IsK .i64) (B' := fun p : Int × S42 => (IsK .i64) p.1 ∧ (B42) p.2) ?_ ?_
  · exact OpensS.one _ rfl rfl O_i64
  refine OpensS.cons (B := IsK .i64) (B' := fun p : S42 => (B42) p) ?_ ?_
  · exact OpensS.one _ rfl rfl O_i64
  exact OpensS.one _ rfl rfl O42
def B25 (x : S25) : Prop := (fun l => ∀ x ∈ l, (B67) x) x.f0 ∧ (fun l => ∀ x ∈ l, (IsK .i64) x) x.f1
theorem O25 : Opens Tryz.prog k25 25 B25 := by
  refine Opens.struct ?_ Tryz.underlying25 (by kernel_rfl)
  refine OpensS.iso (d := (Kd.pair (Kd.slice 67 k67) (Kd.slice 3 (Kd.int .i64)))) (B := fun p => (fun l => ∀ x ∈ l, (B67) x) p.1 ∧ (fun l => ∀ x ∈ l, (IsK .i64) x) p.2) ?_ (fun x : S25 => (x.f0, x.f1)) (fun p => ⟨p.1, p.2⟩) (fun _ => rfl)
  refine OpensS.cons (B := fun l => ∀ x ∈ l, (B67) x) (B' := fun p : (List Int) => (fun l => ∀ x ∈ l, (IsK .i64) x) p) ?_ ?_
  · exact OpensS.one _ rfl rfl (Opens.slice O67 Tryz.underlying22 (by kernel_rfl))
  exact OpensS.one _ rfl rfl (Opens.slice O_i64 Tryz.underlying23 (by kernel_rfl))
end Go.Proofs.YtlmglnobdcgbeaaGreat.P
