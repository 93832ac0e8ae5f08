/- Part 9 of what the law's proof needs: words, walks of functions and plain facts. -/
import Derived.Deep.Slices
import Derived.OpenShut
import Derived.ChangeArms
import Derived.Test.YtlmglnobdcgbeaaGreatA01
import Derived.Test.YtlmglnobdcgbeaaGreatA02
import Derived.Test.YtlmglnobdcgbeaaGreatA05
import Derived.Test.YtlmglnobdcgbeaaGreatA08
set_option linter.unusedVariables false
set_option linter.unusedSimpArgs false
namespace Go.Proofs.YtlmglnobdcgbeaaGreat.P
open Go.RowKit Go.Proofs.YtlmglnobdcgbeaaGreatW.PrintWords Go.Proofs.YtlmglnobdcgbeaaGreatW.PrintLast Go.Proofs.YtlmglnobdcgbeaaGreatW.PrintMore
attribute [local go_sem] max2_int min2_int max_two min_two max_three min_three max_four min_four
def walkmilllaw04_TurnOrders.j0 : Nat → List Int → Int → Bool → List (S67) → List Int → Option (Bool)
 | 0, _, _, _, _, _ => none
 | k + 1, x5, x7, x35, x102000, x102001 => if x35 = true then (some false) else (if x7 = 0 then ((walkmillref04_Order.f k x102000 x102001).bind fun t119 => ((walkmillref04_Ints.f k x5 t119).bind fun t122 => (if t122 = true then ((walkmilllaw04_known.f).bind fun t123 => (some t123)) else (some false)))) else (if (x5.length : Int) = 0 then ((walkmilllaw04_known.f).bind fun t118 => (some t118)) else (some false)))
def walkmilllaw04_TurnOrders.f (k : Nat) (l0_0 : List (S67)) (l0_1 : List Int) : Option (Bool) := (walkmilllaw04_long.f l0_0 l0_1).bind fun t102 => (if t102 = true then ((walkmilllaw04_known.f).bind fun t103 => (some t103)) else ((walkmillref04_Copy.f l0_0 l0_1).bind fun bt104 => ((turn_Check.f k bt104.1 bt104.2).bind fun t111 => ((turn_Order.f k bt104.1 bt104.2).bind fun bt112 => ((walkmillref04_Check.f k l0_0 l0_1).bind fun t116 => ((walkmillref04_Same.f k bt104.1 bt104.2 l0_0 l0_1).bind fun t117 => (if t117 = true then (if t111 = t116 then (walkmilllaw04_TurnOrders.j0 k bt112.1 t116 (bt112.2 != t116) l0_0 l0_1) else (walkmilllaw04_TurnOrders.j0 k bt112.1 t116 true l0_0 l0_1)) else (walkmilllaw04_TurnOrders.j0 k bt112.1 t116 true l0_0 l0_1))))))))
theorem walkmilllaw04_TurnOrders.mono_l : ∀ k, (∀ y0 y1 y2 y3 y4, LeO (walkmilllaw04_TurnOrders.j0 k y0 y1 y2 y3 y4) (walkmilllaw04_TurnOrders.j0 (k + 1) y0 y1 y2 y3 y4))
 | 0 => fun _ _ _ _ _ r h => by simp [walkmilllaw04_TurnOrders.j0] at h
 | k + 1 => by
  have ih0 := walkmilllaw04_TurnOrders.mono_l k
  ·intro y0 y1 y2 y3 y4
   unfold walkmilllaw04_TurnOrders.j0
   repeat' first
   | (with_reducible exact ih0 _ _ _ _ _)
   | (with_reducible exact turn_Check.mono _ _ _)
   | (with_reducible exact turn_Order.mono _ _ _)
   | (with_reducible exact walkmillref04_Check.mono _ _ _)
   | (with_reducible exact walkmillref04_Ints.mono _ _ _)
   | (with_reducible exact walkmillref04_Order.mono _ _ _)
   | (with_reducible exact walkmillref04_Same.mono _ _ _ _ _)
   | (with_reducible exact LeO.refl _)
   | (with_reducible exact LeO.none _)
   | (with_reducible refine LeO.ite ?_ ?_)
   | (with_reducible refine LeO.bind ?_ (fun _ => ?_))
   | exact ih0 _ _ _ _ _
   | exact turn_Check.mono _ _ _
   | exact turn_Order.mono _ _ _
   | exact walkmillref04_Check.mono _ _ _
   | exact walkmillref04_Ints.mono _ _ _
   | exact walkmillref04_Order.mono _ _ _
   | exact walkmillref04_Same.mono _ _ _ _ _
   | exact LeO.none _
   | refine LeO.ite ?_ ?_
   | refine LeO.bind ?_ (fun _ => ?_)
theorem walkmilllaw04_TurnOrders.dead_j0 : ∀ k y0 y1 y3 y4 r, walkmilllaw04_TurnOrders.j0 k y0 y1 true y3 y4 = some r → r = true → False := by
 intro k y0 y1 y3 y4 r h hr
 cases k with
 | zero => simp [walkmilllaw04_TurnOrders.j0] at h
 | succ k => exact absurd ((Option.some.inj (show (some false : Option Bool) = some r from h)).trans hr) (by simp)
theorem walkmilllaw04_TurnOrders.mono : ∀ a0 a1 k, LeO (walkmilllaw04_TurnOrders.f k a0 a1) (walkmilllaw04_TurnOrders.f (k + 1) a0 a1) := by
 intro a0 a1 k
 have ih0 := walkmilllaw04_TurnOrders.mono_l k
 unfold walkmilllaw04_TurnOrders.f
 repeat' first
   | (with_reducible exact ih0 _ _ _ _ _)
   | (with_reducible exact turn_Check.mono _ _ _)
   | (with_reducible exact turn_Order.mono _ _ _)
   | (with_reducible exact walkmillref04_Check.mono _ _ _)
   | (with_reducible exact walkmillref04_Ints.mono _ _ _)
   | (with_reducible exact walkmillref04_Order.mono _ _ _)
   | (with_reducible exact walkmillref04_Same.mono _ _ _ _ _)
   | (with_reducible exact LeO.refl _)
   | (with_reducible exact LeO.none _)
   | (with_reducible refine LeO.ite ?_ ?_)
   | (with_reducible refine LeO.bind ?_ (fun _ => ?_))
   | exact ih0 _ _ _ _ _
   | exact turn_Check.mono _ _ _
   | exact turn_Order.mono _ _ _
   | exact walkmillref04_Check.mono _ _ _
   | exact walkmillref04_Ints.mono _ _ _
   | exact walkmillref04_Order.mono _ _ _
   | exact walkmillref04_Same.mono _ _ _ _ _
   | exact LeO.none _
   | refine LeO.ite ?_ ?_
   | refine LeO.bind ?_ (fun _ => ?_)
set_option maxHeartbeats 8000000 in
set_option maxRecDepth 100000 in
theorem walkmilllaw04_TurnOrders.calls_true (k : Nat) (A0_0 : Option Addr) (c0_0 : Nat) (l0_0 : List (S67)) (A0_1 : Option Addr) (c0_1 : Nat) (l0_1 : List Int) (r : Bool) (w : World) (hr0_0 : Kd.C k67 w A0_0 l0_0.length l0_0) (hc0_0 : l0_0.length ≤ c0_0) (hr0_1 : Kd.C (Kd.int .i64) w A0_1 l0_1.length l0_1) (hc0_1 : l0_1.length ≤ c0_1) (hrt : r = true) (h : walkmilllaw04_TurnOrders.f k l0_0 l0_1 = some r) :
  Calls Tryz.prog 3 #[.agg #[.slice A0_0 l0_0.length c0_0, .slice A0_1 l0_1.length c0_1]] w fun e w' => e = .returned (.bool r) ∧ Below w.heap.size w w' := by
 have hu25 := Tryz.underlying25
 have HRT := Aside0.mk hrt
 clear hrt
 have HR0_0 := Aside0.mk hr0_0
 have HC0_0 := Aside0.mk hc0_0
 clear hr0_0 hc0_0
 have HR0_1 := Aside0.mk hr0_1
 have HC0_1 := Aside0.mk hc0_1
 clear hr0_1 hc0_1
 have HB := Aside0.mk (Below.refl w.heap.size w)
 have H : ((walkmilllaw04_long.f l0_0 l0_1).bind fun t102 => (if t102 = true then ((walkmilllaw04_known.f).bind fun t103 => (some t103)) else ((walkmillref04_Copy.f l0_0 l0_1).bind fun bt104 => ((turn_Check.f k bt104.1 bt104.2).bind fun t111 => ((turn_Order.f k bt104.1 bt104.2).bind fun bt112 => ((walkmillref04_Check.f k l0_0 l0_1).bind fun t116 => ((walkmillref04_Same.f k bt104.1 bt104.2 l0_0 l0_1).bind fun t117 => (if t117 = true then (if t111 = t116 then (walkmilllaw04_TurnOrders.j0 k bt112.1 t116 (bt112.2 != t116) l0_0 l0_1) else (walkmilllaw04_TurnOrders.j0 k bt112.1 t116 true l0_0 l0_1)) else (walkmilllaw04_TurnOrders.j0 k bt112.1 t116 true l0_0 l0_1))))))))) = some r := h
 clear h
 obtain ⟨t102, A2, H⟩ := bi H
 by_cases c3 : t102 = true
 ·subst c3
  rw [if_pos rfl] at H
  obtain ⟨t103, A4, H⟩ := bi H
  obtain rfl := Option.some.inj H
  go_enter Tryz.func3, Tryz.ntmps3
  go_wp2_with (first | ((with_reducible refine gate_dst (N := 1) rfl ?_); refine bx 1 #[.slice A0_0 l0_0.length c0_0, .slice A0_1 l0_1.length c0_1] 25 ?_; intro gb101 hg w5 hbox hb; have BK101 := hbox; have GW101 := gs HB hg; have GE101 := gs HB hg; replace HB := bs HB hb; clear hb hbox hg; obtain ⟨hcz6_0, hcz6_1, hfz6_0, hfz6_1⟩ := cf2 BK101) | ((with_reducible refine gc 16 rfl ?_); refine gL 9 Tryz.func16 #[.agg #[.slice A0_0 l0_0.length c0_0, .slice A0_1 l0_1.length c0_1]] ?_; (with_reducible refine (walkmilllaw04_long.calls _ _ l0_0 _ _ l0_1 true _ ?side1 ?side2 ?side3 ?side4 A2.out).mono ?_); (case side1 => exact pC (Kd.C_below HR0_0.out HB.out)); (case side2 => exact HC0_0.out); (case side3 => exact pC (Kd.C_below HR0_1.out HB.out)); (case side4 => exact HC0_1.out); rintro e w7 ⟨rfl, hb⟩; refine ⟨_, rfl, ?_⟩; replace BK101 := bb BK101 hb; replace HB := bs HB hb; clear hb) | ((with_reducible refine gc 17 rfl ?_); refine gL 10 Tryz.func17 #[] ?_; (with_reducible refine (walkmilllaw04_known.calls  t103 _ A4.out).mono ?_); rintro e w8 ⟨rfl, hb⟩; refine ⟨_, rfl, ?_⟩; replace BK101 := bb BK101 hb; replace HB := bs HB hb; clear hb))
  go_ret
  exact ⟨eT, pE HB⟩
 ·replace c3 := Bool.eq_false_iff.mpr c3
  subst c3
  rw [if_neg (show ¬ (false = true) by decide)] at H
  obtain ⟨⟨t104, t107⟩, A9, H⟩ := bi H
  obtain ⟨t111, A10, H⟩ := bi H
  obtain ⟨⟨t112, t115⟩, A11, H⟩ := bi H
  obtain ⟨t116, A12, H⟩ := bi H
  have HC13 := Aside0.mk H
  clear H
  go_enter Tryz.func3, Tryz.ntmps3
  go_upto_region 7 with (first | ((with_reducible refine gate_dst (N := 1) rfl ?_); refine bx 1 #[.slice A0_0 l0_0.length c0_0, .slice A0_1 l0_1.length c0_1] 25 ?_; intro gb101 hg w14 hbox hb; have BK101 := hbox; have GW101 := gs HB hg; have GE101 := gs HB hg; replace HB := bs HB hb; clear hb hbox hg; obtain ⟨hcz15_0, hcz15_1, hfz15_0, hfz15_1⟩ := cf2 BK101) | ((with_reducible refine gc 16 rfl ?_); refine gL 9 Tryz.func16 #[.agg #[.slice A0_0 l0_0.length c0_0, .slice A0_1 l0_1.length c0_1]] ?_; (with_reducible refine (walkmilllaw04_long.calls _ _ l0_0 _ _ l0_1 false _ ?side1 ?side2 ?side3 ?side4 A2.out).mono ?_); (case side1 => exact pC (Kd.C_below HR0_0.out HB.out)); (case side2 => exact HC0_0.out); (case side3 => exact pC (Kd.C_below HR0_1.out HB.out)); (case side4 => exact HC0_1.out); rintro e w16 ⟨rfl, hb⟩; refine ⟨_, rfl, ?_⟩; replace BK101 := bb BK101 hb; replace HB := bs HB hb; clear hb; obtain ⟨hcz17_0, hcz17_1, hfz17_0, hfz17_1⟩ := cf2 BK101) | ((with_reducible refine gc 18 rfl ?_); refine gL 12 Tryz.func18 #[.agg #[.slice A0_0 l0_0.length c0_0, .slice A0_1 l0_1.length c0_1]] ?_; (with_reducible refine (walkmillref04_Copy.calls _ _ l0_0 _ _ l0_1 t104 t107 _ ?side1 ?side2 ?side3 ?side4 A9.out).mono ?_); (case side1 => exact pC (Kd.C_below HR0_0.out HB.out)); (case side2 => exact HC0_0.out); (case side3 => exact pC (Kd.C_below HR0_1.out HB.out)); (case side4 => exact HC0_1.out); rintro e w18 ⟨v105, v108, rfl, ho0, ho1, hb⟩; refine ⟨_, rfl, ?_⟩; have HO106 := rl ho0 HB; have HO109 := rl ho1 HB; replace BK101 := bb BK101 hb; replace HB := bs HB hb; clear hb ho0 ho1) | ((with_reducible refine gate_dst (N := 3) rfl ?_); refine bx 3 #[.slice none 0 0, .slice none 0 0] 25 ?_; intro gb110 hg w19 hbox hb; replace HO106 := rb HO106 hb; replace HO109 := rb HO109 hb; have BK110 := hbox; have GW110 := gs HB hg; have GE110 := gs HB hg; replace HB := bs HB hb; have NB101_110 := nl BK101 hg; have NB110_101 := nr BK101 hg; replace BK101 := bb BK101 hb; clear hb hbox hg; obtain ⟨Ao20, co20, eo20⟩ := Kd.R_slice HO106.out; subst eo20; have hnb21 := NB110_101.out; have hnc21 := NB101_110.out; obtain ⟨hcz22_0, hcz22_1, hfz22_0, hfz22_1⟩ := cf2 BK110; obtain ⟨Ao23, co23, eo23⟩ := Kd.R_slice HO109.out; subst eo23) | ((with_reducible refine gc 19 rfl ?_); refine gL 14 Tryz.func19 #[.agg #[.slice Ao20 t104.length co20, .slice Ao23 t107.length co23]] ?_; (with_reducible refine (turn_Check.calls k _ _ t104 _ _ t107 t111 _ ?side1 ?side2 ?side3 ?side4 A10.out).mono ?_); (case side1 => refine (Kd.R_reads' (e := 67) (base := w.heap.size) (ok := fun k_ => True) (n := t104.length) (c := co20) ?_).2.2; exact (by refine pR ?_; exact (Kd.R_mono (Kd.R_far (p := ⟨gb110, 1, none⟩) (Kd.R_far (p := ⟨gb110, 0, none⟩) (Kd.R_types HO106.out BK110.out (by decide)) (fun _ hk => hk.2) (.slice Ao20 t104.length co20)) (fun _ hk => hk.2) (.slice Ao23 t107.length co23)) (fun _ h_ => h_.1)))); (case side2 => exact (Kd.R_reads' HO106.out).2.1); (case side3 => refine (Kd.R_reads' (e := 3) (base := w.heap.size) (ok := fun k_ => True) (n := t107.length) (c := co23) ?_).2.2; exact (by refine pR ?_; exact (Kd.R_mono (Kd.R_far (p := ⟨gb110, 1, none⟩) (Kd.R_far (p := ⟨gb110, 0, none⟩) (Kd.R_types HO109.out BK110.out (by decide)) (fun _ hk => hk.2) (.slice Ao20 t104.length co20)) (fun _ hk => hk.2) (.slice Ao23 t107.length co23)) (fun _ h_ => h_.1)))); (case side4 => exact (Kd.R_reads' HO109.out).2.1); rintro e w24 ⟨rfl, hb⟩; refine ⟨_, rfl, ?_⟩; replace HO106 := Aside0.mk (Kd.R_below (by refine pR ?_; exact (Kd.R_mono (Kd.R_far (p := ⟨gb110, 1, none⟩) (Kd.R_far (p := ⟨gb110, 0, none⟩) (Kd.R_types HO106.out BK110.out (by decide)) (fun _ hk => hk.2) (.slice Ao20 t104.length co20)) (fun _ hk => hk.2) (.slice Ao23 t107.length co23)) (fun _ h_ => h_.1))) hb); replace HO109 := Aside0.mk (Kd.R_below (by refine pR ?_; exact (Kd.R_mono (Kd.R_far (p := ⟨gb110, 1, none⟩) (Kd.R_far (p := ⟨gb110, 0, none⟩) (Kd.R_types HO109.out BK110.out (by decide)) (fun _ hk => hk.2) (.slice Ao20 t104.length co20)) (fun _ hk => hk.2) (.slice Ao23 t107.length co23)) (fun _ h_ => h_.1))) hb); replace BK101 := bf BK101 hb; replace BK110 := Aside0.mk (blk_below (g := gb110) (o := .cells #[.slice Ao20 t104.length co20, .slice Ao23 t107.length co23] 25 (0, 0)) (by refine pB ?_; refine blk_put (cs := #[.slice Ao20 t104.length co20, .slice none 0 0]) ?_ 1 _ rfl; refine pB ?_; refine blk_put (cs := #[.slice none 0 0, .slice none 0 0]) ?_ 0 _ rfl; (with_reducible repeat (first | refine blk_drewN ?_ _ | refine blk_drew ?_ | refine blk_alloc ?_ _)); exact BK110.out) hb); replace HB := bs HB hb; clear hb; obtain ⟨hcz25_0, hcz25_1, hfz25_0, hfz25_1⟩ := cf2 BK110) | ((with_reducible refine gc 20 rfl ?_); refine gL 17 Tryz.func20 #[.agg #[.slice Ao20 t104.length co20, .slice Ao23 t107.length co23]] ?_; (with_reducible refine (turn_Order.calls k _ _ t104 _ _ t107 t112 t115 _ ?side1 ?side2 ?side3 ?side4 A11.out).mono ?_); (case side1 => exact pC (Kd.R_reads' HO106.out).2.2); (case side2 => exact (Kd.R_reads' HO106.out).2.1); (case side3 => exact pC (Kd.R_reads' HO109.out).2.2); (case side4 => exact (Kd.R_reads' HO109.out).2.1); rintro e w26 ⟨v113, rfl, ho0, hb⟩; refine ⟨_, rfl, ?_⟩; replace HO106 := rb HO106 hb; have HO114 := Aside0.mk (Kd.R_lower (Kd.R_new' ho0 (Kd.R_lt (pR HO109.out))) (below_size (pE HB))); replace HO109 := re HO109 ho0 hb; replace BK101 := bb BK101 hb; replace BK110 := bb BK110 hb; replace HB := bs HB hb; clear hb ho0; obtain ⟨hcz27_0, hcz27_1, hfz27_0, hfz27_1⟩ := cf2 BK101) | ((with_reducible refine gc 21 rfl ?_); refine gL 21 Tryz.func21 #[.agg #[.slice A0_0 l0_0.length c0_0, .slice A0_1 l0_1.length c0_1]] ?_; (with_reducible refine (walkmillref04_Check.calls k _ _ l0_0 _ _ l0_1 t116 _ ?side1 ?side2 ?side3 ?side4 A12.out).mono ?_); (case side1 => exact pC (Kd.C_below HR0_0.out HB.out)); (case side2 => exact HC0_0.out); (case side3 => exact pC (Kd.C_below HR0_1.out HB.out)); (case side4 => exact HC0_1.out); rintro e w28 ⟨rfl, hb⟩; refine ⟨_, rfl, ?_⟩; replace HO106 := rb HO106 hb; replace HO109 := rb HO109 hb; replace HO114 := rb HO114 hb; replace BK101 := bb BK101 hb; replace BK110 := bb BK110 hb; replace HB := bs HB hb; clear hb))
  (try simp only [Act.put, List.setIfInBounds_toArray, List.set_cons_zero, List.set_cons_succ])
  go_cut [35] (fun v35 wc => ∃ (kq : Nat) (x35_12 : Bool), v35 = .bool x35_12 ∧ Aside0 (walkmilllaw04_TurnOrders.j0 kq t112 t116 x35_12 l0_0 l0_1 = some r) ∧ Aside0 (kq ≤ k) ∧ Aside0 (Kd.R (Kd.int .i64) 3 wc w.heap.size (fun k_ => some k_ ≠ ((.slice Ao23 t107.length co23) : Value).ownBlock) v113 t112) ∧ Aside0 (Kd.R k67 67 wc w.heap.size (fun _ => True) (.slice Ao20 t104.length co20) t104) ∧ Aside0 (Kd.R (Kd.int .i64) 3 wc w.heap.size (fun k_ => some k_ ≠ (v113 : Value).ownBlock) (.slice Ao23 t107.length co23) t107) ∧ Aside0 (wc.heap[gb101]? = some (.cells #[(.slice A0_0 l0_0.length c0_0), (.slice A0_1 l0_1.length c0_1)] 25 (0, 0))) ∧ Aside0 (wc.heap[gb110]? = some (.cells #[(.slice Ao20 t104.length co20), (.slice Ao23 t107.length co23)] 25 (0, 0))) ∧ Aside0 (Below w.heap.size w wc))
  case first =>
   have H := HC13.out
   clear HC13
   obtain ⟨t117, A29, H⟩ := bi H
   by_cases c30 : t117 = true
   ·subst c30
    rw [if_pos rfl] at H
    by_cases c31 : t111 = t116
    ·rw [if_pos c31] at H
     have c31b0 : (t111 == t116) = true := beq_iff_eq.mpr c31
     have c31b1 : (t111 != t116) = false := bne_eq_false_iff_eq.mpr c31
     clear c31
     (first | rw [c31b0] | (simp only [i64_w, i32_w]; rw [c31b0]) | skip)
     have H' := Aside0.mk H
     clear H
     have hnb32 := NB110_101.out
     have hnc32 := NB101_110.out
     obtain ⟨hcz33_0, hcz33_1, hfz33_0, hfz33_1⟩ := cf2 BK110
     obtain ⟨hcz34_0, hcz34_1, hfz34_0, hfz34_1⟩ := cf2 BK101
     go_wp2_with (first | ((with_reducible refine gc 22 rfl ?_); refine gL 24 Tryz.func22 #[.agg #[.slice Ao20 t104.length co20, .slice Ao23 t107.length co23], .agg #[.slice A0_0 l0_0.length c0_0, .slice A0_1 l0_1.length c0_1]] ?_; (with_reducible refine (walkmillref04_Same.calls k _ _ t104 _ _ t107 _ _ l0_0 _ _ l0_1 true _ ?side1 ?side2 ?side3 ?side4 ?side5 ?side6 ?side7 ?side8 A29.out).mono ?_); (case side1 => exact pC (Kd.R_reads' HO106.out).2.2); (case side2 => exact (Kd.R_reads' HO106.out).2.1); (case side3 => exact pC (Kd.R_reads' HO109.out).2.2); (case side4 => exact (Kd.R_reads' HO109.out).2.1); (case side5 => exact pC (Kd.C_below HR0_0.out HB.out)); (case side6 => exact HC0_0.out); (case side7 => exact pC (Kd.C_below HR0_1.out HB.out)); (case side8 => exact HC0_1.out); rintro e w35 ⟨rfl, hb⟩; refine ⟨_, rfl, ?_⟩; replace HO106 := rb HO106 hb; replace HO109 := rb HO109 hb; replace HO114 := rb HO114 hb; replace BK101 := bb BK101 hb; replace BK110 := bb BK110 hb; replace HB := bs HB hb; clear hb))
     go_meet
     case rel => exact ⟨_, ((t115 != t116)), (by first | rfl | (simp; done) | (simp [*]; done)), H', ⟨by first | omega | exact Nat.le_refl _⟩, ⟨by (with_reducible repeat (first | apply Kd.R_alloc | apply Kd.R_drewN | apply Kd.R_drew)); exact Kd.R_mono HO114.out (fun _ hk => hk.2)⟩, ⟨by (with_reducible repeat (first | apply Kd.R_alloc | apply Kd.R_drewN | apply Kd.R_drew)); exact HO106.out⟩, ⟨by (with_reducible repeat (first | apply Kd.R_alloc | apply Kd.R_drewN | apply Kd.R_drew)); exact Kd.R_mono HO109.out (fun _ hk => hk.2)⟩, ⟨by (with_reducible repeat (first | refine blk_drewN ?_ _ | refine blk_drew ?_ | refine blk_alloc ?_ _)); exact BK101.out⟩, ⟨by (with_reducible repeat (first | refine blk_drewN ?_ _ | refine blk_drew ?_ | refine blk_alloc ?_ _)); exact BK110.out⟩, ⟨pE HB⟩⟩
    ·rw [if_neg c31] at H
     have c31b0 : (t111 == t116) = false := beq_eq_false_iff_ne.mpr c31
     have c31b1 : (t111 != t116) = true := bne_iff_ne.mpr c31
     (first | rw [c31b0] | (simp only [i64_w, i32_w]; rw [c31b0]) | skip)
     exact (walkmilllaw04_TurnOrders.dead_j0 _ _ _ _ _ _ H HRT.out).elim
   ·replace c30 := Bool.eq_false_iff.mpr c30
    subst c30
    rw [if_neg (show ¬ (false = true) by decide)] at H
    exact (walkmilllaw04_TurnOrders.dead_j0 _ _ _ _ _ _ H HRT.out).elim
  case rest =>
   clear HC13
   try clear c1
   try clear c2
   try clear p2
   try clear c3
   try clear c16
   try clear c17
   try clear c18
   try clear c19
   try clear c20
   try clear c21
   try clear c22
   try clear c30
   try clear c31
   try clear c31b0
   try clear c31b1
   try clear c32
   try clear hcz15_0
   try clear hcz15_1
   try clear hcz17_0
   try clear hcz17_1
   try clear hcz22_0
   try clear hcz22_1
   try clear hcz25_0
   try clear hcz25_1
   try clear hcz27_0
   try clear hcz27_1
   try clear hcz33_0
   try clear hcz33_1
   try clear hcz34_0
   try clear hcz34_1
   try clear hcz6_0
   try clear hcz6_1
   try clear hfz15_0
   try clear hfz15_1
   try clear hfz17_0
   try clear hfz17_1
   try clear hfz22_0
   try clear hfz22_1
   try clear hfz25_0
   try clear hfz25_1
   try clear hfz27_0
   try clear hfz27_1
   try clear hfz33_0
   try clear hfz33_1
   try clear hfz34_0
   try clear hfz34_1
   try clear hfz6_0
   try clear hfz6_1
   obtain ⟨kq, x35_12, rfl, HA, HJ12, HO_5, HO_111000, HO_111001, BK101, BK110, HB⟩ := hcut
   cases kq with
   | zero => exact absurd HA.out (by simp [walkmilllaw04_TurnOrders.j0])
   | succ kj12 =>
    have H := HA.out
    clear HA
    simp only [walkmilllaw04_TurnOrders.j0] at H
    by_cases c36 : x35_12 = true
    ·subst c36
     rw [if_pos rfl] at H
     exact absurd ((Option.some.inj H).trans HRT.out) (by simp)
    ·replace c36 := Bool.eq_false_iff.mpr c36
     subst c36
     rw [if_neg (show ¬ (false = true) by decide)] at H
     by_cases c37 : t116 = 0
     ·rw [if_pos c37] at H
      have c37b0 : (t116 == 0) = true := beq_iff_eq.mpr c37
      have c37b1 : (t116 != 0) = false := bne_eq_false_iff_eq.mpr c37
      clear c37
      obtain ⟨t119, A38, H⟩ := bi H
      obtain ⟨t122, A39, H⟩ := bi H
      by_cases c40 : t122 = true
      ·subst c40
       rw [if_pos rfl] at H
       obtain ⟨t123, A41, H⟩ := bi H
       obtain rfl := Option.some.inj H
       have hnb42 := NB101_110.out
       have hnc42 := NB110_101.out
       obtain ⟨_, _, _, _⟩ := cf2 BK101
       go_wp2_with (first | ((with_reducible refine gc 24 rfl ?_); refine gL 46 Tryz.func24 #[.agg #[.slice A0_0 l0_0.length c0_0, .slice A0_1 l0_1.length c0_1]] ?_; (with_reducible refine (walkmillref04_Order.calls kj12 _ _ l0_0 _ _ l0_1 t119 _ ?side1 ?side2 ?side3 ?side4 A38.out).mono ?_); (case side1 => exact pC (Kd.C_below HR0_0.out HB.out)); (case side2 => exact HC0_0.out); (case side3 => exact pC (Kd.C_below HR0_1.out HB.out)); (case side4 => exact HC0_1.out); rintro e w44 ⟨v120, rfl, ho0, hb⟩; refine ⟨_, rfl, ?_⟩; replace HO_111000 := rb HO_111000 hb; have HO121 := Aside0.mk (Kd.R_lower (Kd.R_new' (Kd.R_new' ho0 (Kd.R_lt (pR HO_5.out))) (Kd.R_lt (pR HO_111001.out))) (below_size (pE HB))); replace HO_5 := re HO_5 ho0 hb; replace HO_111001 := re HO_111001 ho0 hb; replace BK101 := bb BK101 hb; replace BK110 := bb BK110 hb; replace HB := bs HB hb; clear hb ho0; obtain ⟨Ao45, co45, eo45⟩ := Kd.R_slice HO_5.out; subst eo45; obtain ⟨Ao46, co46, eo46⟩ := Kd.R_slice HO121.out; subst eo46) | ((with_reducible refine gc 23 rfl ?_); refine gL 47 Tryz.func23 #[.slice Ao45 t112.length co45, .slice Ao46 t119.length co46] ?_; (with_reducible refine (walkmillref04_Ints.calls kj12 _ _ t112 _ _ t119 true _ ?side1 ?side2 ?side3 ?side4 A39.out).mono ?_); (case side1 => exact pC (Kd.R_reads' HO_5.out).2.2); (case side2 => exact (Kd.R_reads' HO_5.out).2.1); (case side3 => exact pC (Kd.R_reads' HO121.out).2.2); (case side4 => exact (Kd.R_reads' HO121.out).2.1); rintro e w' ⟨rfl, ⟨nd, rfl⟩⟩; refine ⟨_, rfl, ?_⟩) | (go_at_call 17; (with_reducible refine (walkmilllaw04_known.calls  t123 _ A41.out).mono ?_); rintro e w47 ⟨rfl, hb⟩; replace HO_5 := rb HO_5 hb; replace HO_111000 := rb HO_111000 hb; replace HO_111001 := rb HO_111001 hb; replace HO121 := rb HO121 hb; replace BK101 := bb BK101 hb; replace BK110 := bb BK110 hb; replace HB := bs HB hb; (try clear hb); (try clear hb2); (try clear hk); (try clear hi)))
       go_ret
       exact ⟨eT, pE HB⟩
      ·replace c40 := Bool.eq_false_iff.mpr c40
       subst c40
       rw [if_neg (show ¬ (false = true) by decide)] at H
       exact absurd ((Option.some.inj H).trans HRT.out) (by simp)
     ·rw [if_neg c37] at H
      have c37b0 : (t116 == 0) = false := beq_eq_false_iff_ne.mpr c37
      have c37b1 : (t116 != 0) = true := bne_iff_ne.mpr c37
      by_cases c48 : (t112.length : Int) = 0
      ·rw [if_pos c48] at H
       have c48b0 : ((t112.length : Int) == 0) = true := beq_iff_eq.mpr c48
       have c48b1 : ((t112.length : Int) != 0) = false := bne_eq_false_iff_eq.mpr c48
       clear c48
       obtain ⟨t118, A49, H⟩ := bi H
       obtain rfl := Option.some.inj H
       obtain ⟨Ao50, co50, eo50⟩ := Kd.R_slice HO_5.out
       subst eo50
       go_wp2_with (first | (go_at_call 17; (with_reducible refine (walkmilllaw04_known.calls  t118 _ A49.out).mono ?_); rintro e w51 ⟨rfl, hb⟩; replace HO_5 := rb HO_5 hb; replace HO_111000 := rb HO_111000 hb; replace HO_111001 := rb HO_111001 hb; replace BK101 := bb BK101 hb; replace BK110 := bb BK110 hb; replace HB := bs HB hb; (try clear hb); (try clear hb2); (try clear hk); (try clear hi)))
       go_ret
       exact ⟨eT, pE HB⟩
      ·rw [if_neg c48] at H
       have c48b0 : ((t112.length : Int) == 0) = false := beq_eq_false_iff_ne.mpr c48
       have c48b1 : ((t112.length : Int) != 0) = true := bne_iff_ne.mpr c48
       have c48b2 : ¬ (t112 = []) := fun h_ => c48 (by rw [h_]; rfl)
       exact absurd ((Option.some.inj H).trans HRT.out) (by simp)
end Go.Proofs.YtlmglnobdcgbeaaGreat.P
namespace Go.Proofs.YtlmglnobdcgbeaaGreat.P
open Go.RowKit Go.Proofs.YtlmglnobdcgbeaaGreatW.PrintWords Go.Proofs.YtlmglnobdcgbeaaGreatW.PrintLast Go.Proofs.YtlmglnobdcgbeaaGreatW.PrintMore
theorem TurnOrders_yes (cl : List S67) (rk : List Int) : ∃ k, walkmilllaw04_TurnOrders.f k cl rk = some true := by
  refine ⟨5001, ?_⟩
  unfold walkmilllaw04_TurnOrders.f
  rw [long_eq, Option.bind_some]
  by_cases hl : 20 < cl.length ∨ 10 < rk.length
  · have e : (decide (20 < cl.length) || decide (10 < rk.length)) = true := by simpa using hl
    rw [e, if_pos rfl]
    rfl
  have e : (decide (20 < cl.length) || decide (10 < rk.length)) = false := by simpa using hl
  rw [e, if_neg (by simp), copy_eq cl rk (by omega) (by omega), Option.bind_some, tCheck_eq cl rk (by omega) 5001 (by omega), Option.bind_some, order_eq cl rk (by omega) 5001 (by omega), Option.bind_some,
    rCheck_eq cl rk (by omega) (by omega) 5001 (by omega), Option.bind_some, rSame_eq 5001 cl rk (by omega) (by omega) (by omega), Option.bind_some, if_pos rfl, if_pos rfl]
  simp only [bne_self_eq_false]
  rw [walkmilllaw04_TurnOrders.j0, if_neg (by simp)]
  by_cases h : chk cl rk = 0
  · have v := valid_of h
    have h10 := v.c10
    have hL : (ordA cl rk).length = cl.length := by rw [(ordA_perm cl rk).length_eq, rng_length]
    rw [if_pos h, if_pos h, rOrder_eq v 5000 (by omega), Option.bind_some, rInts_same 5000 _ (by omega) (by omega), Option.bind_some, if_pos rfl]
    rfl
  · rw [if_neg h, if_neg h, if_pos (by simp)]
    rfl
end Go.Proofs.YtlmglnobdcgbeaaGreat.P
namespace Go.Proofs.YtlmglnobdcgbeaaGreat.P
open Go.RowKit Go.ChangeShapes Go.WideShapes Go.Deep Go.Proofs.YtlmglnobdcgbeaaGreatW.PrintWords Go.Proofs.YtlmglnobdcgbeaaGreatW.PrintLast Go.Proofs.YtlmglnobdcgbeaaGreatW.PrintMore
structure Opens {α : Type} (P : Program) (d : Kd α) (t : TypeId) (B : α → Prop) : Prop where
  sz : P.cellsOf t = d.sz
  op : ∀ (H : Type) (enc : TypeId × Value → H) (w : World) (base : Nat) (spare : Nat → Bool) (held : Bool) (n : Nat) (cs : List Value) (x : DataW H × List MemPlace), DataW.trod enc P w base spare held n t cs = some x → ∃ p, d.K w p cs ∧ B p
theorem Opens.int {P : Program} {t : TypeId} {k : IntKind} (ht : P.underlying t = some (.int k)) (hc : P.cellsOf t = 1) : Opens P (Kd.int k) t (fun n => (Lit.int k n).wf = true) :=
  ⟨hc, fun H enc w base spare held n cs x h => by
    obtain ⟨m, rfl, _, hw⟩ := DataW.trod_int ht h
    exact ⟨m, rfl, hw⟩⟩
theorem Opens.bool {P : Program} {t : TypeId} (ht : P.underlying t = some .bool) (hc : P.cellsOf t = 1) : Opens P Kd.bool t (fun _ => True) :=
  ⟨hc, fun H enc w base spare held n cs x h => by
    obtain ⟨b, rfl, _⟩ := DataW.trod_bool ht h
    exact ⟨b, rfl, trivial⟩⟩
theorem Opens.imp {α : Type} {P : Program} {d : Kd α} {t : TypeId} {B B' : α → Prop} (h : Opens P d t B) (hb : ∀ x, B x → B' x) : Opens P d t B' :=
  ⟨h.sz, fun H enc w base spare held n cs x hx => by obtain ⟨p, h1, h2⟩ := h.op H enc w base spare held n cs x hx; exact ⟨p, h1, hb p h2⟩⟩
theorem choose_list {α : Type} {Q : Nat → α → Prop} : ∀ (n : Nat), (∀ i, i < n → ∃ p, Q i p) → ∃ l : List α, l.length = n ∧ ∀ i p, l[i]? = some p → Q i p
  | 0, _ => ⟨[], rfl, fun i p h => by simp at h⟩
  | n + 1, h => by
    obtain ⟨l, hl, hq⟩ := choose_list n (fun i hi => h i (by omega))
    obtain ⟨p, hp⟩ := h n (by omega)
    refine ⟨l ++ [p], by simp [hl], fun i q hi => ?_⟩
    rcases Nat.lt_or_ge i l.length with h1 | h1
    · rw [List.getElem?_append_left h1] at hi
      exact hq i q hi
    · have : i = n := by
        have := (List.getElem?_eq_some_iff.1 hi).1
        simp at this
        omega
      subst this
      rw [List.getElem?_append_right h1, hl, Nat.sub_self] at hi
      obtain rfl : p = q := by simpa using hi
      exact hp
theorem Opens.slice {α : Type} {P : Program} {d : Kd α} {t e : TypeId} {B : α → Prop} (h : Opens P d e B) (ht : P.underlying t = some (.slice e)) (hc : P.cellsOf t = 1) : Opens P (Kd.slice e d) t (fun l => ∀ x ∈ l, B x) :=
  ⟨hc, fun H enc w base spare held n cs x hx => by
    rcases open_slice ht hx with ⟨rfl, _⟩ | ⟨a, len, cap, m, n', D, Pl, rfl, hb, hl, hm, hmm, _, hi⟩
    · exact ⟨[], ⟨none, 0, rfl, Nat.le_refl _, Kd.C_nil _ _⟩, fun x hx => by cases hx⟩
    · obtain ⟨l, hll, hq⟩ := choose_list (Q := fun i p => (∃ cs', d.K w p cs' ∧ ∀ j, j < d.sz → w.cell? (a.add (i * d.sz + j)) = cs'[j]?) ∧ B p) len (fun i hi' => by
        obtain ⟨cs', hcs, htr⟩ := hi i (by rw [hmm]; split <;> omega)
        obtain ⟨p, hk, hp⟩ := h.op H enc w base spare held n' cs' _ htr
        obtain ⟨_, hcl, hat⟩ := World.cells?_some hcs
        rw [h.sz] at hat
        exact ⟨p, ⟨cs', hk, fun j hj => by
          have := hat j hj
          rw [Go.Deep.add_add] at this
          exact this⟩, hp⟩)
      refine ⟨l, ⟨some a, cap, by rw [hll], by rw [hll]; exact hl, ⟨rfl, by rw [hll]; simp only [maxLen] at hm; omega, fun h0 => ⟨a, rfl, fun j p hj => ?_⟩⟩⟩, fun x hx => ?_⟩
      · obtain ⟨⟨cs', hk, hat⟩, _⟩ := hq j p hj
        refine ⟨cs', d.K_len hk, hk, fun i u hu => ?_⟩
        have hi' : i < d.sz := by have := (List.getElem?_eq_some_iff.1 hu).1; rw [d.K_len hk] at this; exact this
        rw [hat i hi', hu]
      · obtain ⟨i, hi'⟩ := List.getElem?_of_mem hx
        exact (hq i x hi').2⟩
def OpensS {α : Type} (P : Program) (fs : Array Field) (j off : Nat) (d : Kd α) (B : α → Prop) : Prop :=
  ∀ (H : Type) (enc : TypeId × Value → H) (w : World) (base : Nat) (spare : Nat → Bool) (held : Bool) (n : Nat) (cs : List Value) (xs : List (DataW H × List MemPlace)), xs.length = fs.size →
    (∀ (i : Nat) (f : Field), fs[i]? = some f → DataW.trod enc P w base spare held n f.type ((cs.drop f.offset).take (P.cellsOf f.type)) = xs[i]?) → ∃ p, d.K w p ((cs.drop off).take d.sz) ∧ B p
theorem OpensS.one {α : Type} {P : Program} {fs : Array Field} {j off : Nat} {d : Kd α} {B : α → Prop} (f : Field) (hf : fs[j]? = some f) (ho : f.offset = off) (h : Opens P d f.type B) : OpensS P fs j off d B := by
  intro H enc w base spare held n cs xs hl hx
  have h1 := hx j f hf
  have hj : j < xs.length := by rw [hl]; exact (Array.getElem?_eq_some_iff.1 hf).1
  rw [List.getElem?_eq_getElem hj, ho, h.sz] at h1
  exact h.op H enc w base spare held n _ _ h1
theorem OpensS.cons {α β : Type} {P : Program} {fs : Array Field} {j off : Nat} {d : Kd α} {d' : Kd β} {B : α → Prop} {B' : β → Prop} (h : OpensS P fs j off d B) (h' : OpensS P fs (j + 1) (off + d.sz) d' B') : OpensS P fs j off (Kd.pair d d') (fun p => B p.1 ∧ B' p.2) := by
  intro H enc w base spare held n cs xs hl hx
  obtain ⟨p, h1, h2⟩ := h H enc w base spare held n cs xs hl hx
  obtain ⟨q, h3, h4⟩ := h' H enc w base spare held n cs xs hl hx
  refine ⟨(p, q), ⟨_, _, ?_, h1, h3⟩, h2, h4⟩
  show (cs.drop off).take (d.sz + d'.sz) = _
  rw [List.take_add, List.drop_drop]
theorem OpensS.iso {α β : Type} {P : Program} {fs : Array Field} {j off : Nat} {d : Kd α} {B : α → Prop} (h : OpensS P fs j off d B) (f : β → α) (g : α → β) (hg : ∀ a, f (g a) = a) : OpensS P fs j off (Kd.iso d f) (fun y => B (f y)) := by
  intro H enc w base spare held n cs xs hl hx
  obtain ⟨p, h1, h2⟩ := h H enc w base spare held n cs xs hl hx
  exact ⟨g p, by show d.K w (f (g p)) _; rw [hg]; exact h1, by show B (f (g p)); rw [hg]; exact h2⟩
theorem Opens.struct {α : Type} {P : Program} {fs : Array Field} {d : Kd α} {t : TypeId} {B : α → Prop} (h : OpensS P fs 0 0 d B) (ht : P.underlying t = some (.struct fs)) (hc : P.cellsOf t = d.sz) : Opens P d t B :=
  ⟨hc, fun H enc w base spare held n cs x hx => by
    obtain ⟨xs, n', _, _, hcl, hl, hf⟩ := DataW.trod_struct ht hx
    obtain ⟨p, h1, h2⟩ := h H enc w base spare held n' cs xs hl hf
    refine ⟨p, ?_, h2⟩
    rw [List.drop_zero, List.take_of_length_le (by rw [hcl, hc]; exact Nat.le_refl _)] at h1
    exact h1⟩
theorem Opens.array {α : Type} {P : Program} {fs : Array Field} {d : Kd α} {t e : TypeId} {n : Nat} {B : α → Prop} (h : OpensS P fs 0 0 d B) (ht : P.underlying t = some (.array n e)) (hc : P.cellsOf t = d.sz) (he : P.cellsOf e = 1) (hn : fs.size = n) (hf : ∀ i : Fin fs.size, fs[i].type = e ∧ fs[i].offset = i.val) : Opens P d t B :=
  ⟨hc, fun H enc w base spare held n' cs x hx => by
    obtain ⟨xs, m, _, _, hcl, hl, hg⟩ := DataW.trod_array ht hx
    obtain ⟨p, h1, h2⟩ := h H enc w base spare held m cs xs (by rw [hl, hn]) (fun i f hi => by
      obtain ⟨hi', rfl⟩ := Array.getElem?_eq_some_iff.1 hi
      obtain ⟨e1, e2⟩ := hf ⟨i, hi'⟩
      have e1' : fs[i].type = e := e1
      have e2' : fs[i].offset = i := e2
      have := hg i (by rw [← hn]; exact hi')
      rw [he, Nat.mul_one] at this
      rw [e1', e2', he]; exact this)
    refine ⟨p, ?_, h2⟩
    rw [List.drop_zero, List.take_of_length_le (by rw [hcl, hc]; exact Nat.le_refl _)] at h1
    exact h1⟩
theorem Opens.arg {α : Type} {P : Program} {d : Kd α} {t : TypeId} {B : α → Prop} (h : Opens P d t B) {H : Type} {enc : TypeId × Value → H} {w : World} {base : Nat} {spare : Nat → Bool} {held : Bool} {v : Value} {x : DataW H} {ps : List MemPlace} (hx : DataW.Trod enc P w base spare held t v x ps) :
    ∃ p : α, d.K w p v.cells.toList ∧ B p := by
  obtain ⟨n, hn⟩ := hx
  exact h.op H enc w base spare held n _ _ hn
theorem agg_cells {v : Value} {l : List Value} (h : v.cells.toList = l) (hl : 2 ≤ l.length) : v = .agg l.toArray := by
  cases v with
  | agg x => simp only [Value.cells] at h; rw [← h]
  | _ => simp only [Value.cells] at h; subst h; simp at hl
end Go.Proofs.YtlmglnobdcgbeaaGreat.P
namespace Go.Proofs.YtlmglnobdcgbeaaGreat.P
open Go.RowKit Go.Proofs.YtlmglnobdcgbeaaGreatW.PrintWords
def IsK (k : IntKind) (n : Int) : Prop := (Lit.int k n).wf = true
theorem O_i64 : Opens Tryz.prog (Kd.int .i64) 3 (IsK .i64) := Opens.int Tryz.underlying3 (by kernel_rfl)
def B42 (x : S42) : Prop := (IsK .i64) x.f0 ∧ (IsK .i64) x.f1
theorem O42 : Opens Tryz.prog k42 42 B42 := by
  refine Opens.struct ?_ Tryz.underlying42 (by kernel_rfl)
  refine OpensS.iso (d := (Kd.pair (Kd.int .i64) (Kd.int .i64))) (B := fun p => (IsK .i64) p.1 ∧ (IsK .i64) p.2) ?_ (fun x : S42 => (x.f0, x.f1)) (fun p => ⟨p.1, p.2⟩) (fun _ => rfl)
  refine OpensS.cons (B := IsK .i64) (B' := fun p : Int => (IsK .i64) p) ?_ ?_
  · exact OpensS.one _ rfl rfl O_i64
  exact OpensS.one _ rfl rfl O_i64
def B67 (x : S67) : Prop := (IsK .i64) x.f0 ∧ (IsK .i64) x.f1 ∧ (B42) x.f2
theorem O67 : Opens Tryz.prog k67 67 B67 := by
  refine Opens.struct ?_ Tryz.underlying67 (by kernel_rfl)
  refine OpensS.iso (d := (Kd.pair (Kd.int .i64) (Kd.pair (Kd.int .i64) k42))) (B := fun p => (IsK .i64) p.1 ∧ (IsK .i64) p.2.1 ∧ (B42) p.2.2) ?_ (fun x : S67 => (x.f0, x.f1, x.f2)) (fun p => ⟨p.1, p.2.1, p.2.2⟩) (fun _ => rfl)
  refine OpensS.cons (B := IsK .i64) (B' := fun p : Int × S42 => (IsK .i64) p.1 ∧ (B42) p.2) ?_ ?_
  · exact OpensS.one _ rfl rfl O_i64
  refine OpensS.cons (B := IsK .i64) (B' := fun p : S42 => (B42) p) ?_ ?_
  · exact OpensS.one _ rfl rfl O_i64
  exact OpensS.one _ rfl rfl O42
def B25 (x : S25) : Prop := (fun l => ∀ x ∈ l, (B67) x) x.f0 ∧ (fun l => ∀ x ∈ l, (IsK .i64) x) x.f1
theorem O25 : Opens Tryz.prog k25 25 B25 := by
  refine Opens.struct ?_ Tryz.underlying25 (by kernel_rfl)
  refine OpensS.iso (d := (Kd.pair (Kd.slice 67 k67) (Kd.slice 3 (Kd.int .i64)))) (B := fun p => (fun l => ∀ x ∈ l, (B67) x) p.1 ∧ (fun l => ∀ x ∈ l, (IsK .i64) x) p.2) ?_ (fun x : S25 => (x.f0, x.f1)) (fun p => ⟨p.1, p.2⟩) (fun _ => rfl)
  refine OpensS.cons (B := fun l => ∀ x ∈ l, (B67) x) (B' := fun p : (List Int) => (fun l => ∀ x ∈ l, (IsK .i64) x) p) ?_ ?_
  · exact OpensS.one _ rfl rfl (Opens.slice O67 Tryz.underlying22 (by kernel_rfl))
  exact OpensS.one _ rfl rfl (Opens.slice O_i64 Tryz.underlying23 (by kernel_rfl))
end Go.Proofs.YtlmglnobdcgbeaaGreat.P
