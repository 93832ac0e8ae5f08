/- Part 8 of what the law's proof needs: words, walks of functions and plain facts. -/
import Derived.Deep.Slices
import Derived.OpenShut
import Derived.ChangeArms
import Derived.Test.YtlmglnobdcgbeaaGreatB01
import Derived.Test.YtlmglnobdcgbeaaGreatB04
import Derived.Test.YtlmglnobdcgbeaaGreatB05
import Derived.Test.YtlmglnobdcgbeaaGreatB07
set_option linter.unusedVariables false
set_option linter.unusedSimpArgs false
namespace Go.Proofs.YtlmglnobdcgbeaaGreat.P
open Go.RowKit Go.Proofs.YtlmglnobdcgbeaaGreatW.PrintWords Go.Proofs.YtlmglnobdcgbeaaGreatW.PrintLast Go.Proofs.YtlmglnobdcgbeaaGreatW.PrintMore
attribute [local go_sem] max2_int min2_int max_two min_two max_three min_three max_four min_four
def walkmilllaw04_TurnFews.f (k : Nat) (l0_0 : List (S67)) (l0_1 : List Int) (a1 : Int) : Option (Bool) := (walkmilllaw04_long.f l0_0 l0_1).bind fun t102 => (if t102 = true then ((walkmilllaw04_known.f).bind fun t103 => (some t103)) else ((walkmillref04_Copy.f l0_0 l0_1).bind fun bt104 => ((turn_Fewest.f k bt104.1 bt104.2 a1).bind fun bt111 => ((walkmillref04_Same.f k bt104.1 bt104.2 l0_0 l0_1).bind fun t113 => (if t113 = true then ((walkmillref04_Open.f k l0_0 l0_1 1 a1).bind fun t114 => (if t114 = 0 then (if bt111.2 = 0 then ((walkmillref04_Fewest.f k l0_0 l0_1 a1).bind fun t116 => (if bt111.1 = t116 then ((walkmilllaw04_known.f).bind fun t117 => (some t117)) else (some false))) else (some false)) else (if bt111.2 = t114 then (if bt111.1 = 0 then ((walkmilllaw04_known.f).bind fun t115 => (some t115)) else (some false)) else (some false)))) else (some false))))))
theorem walkmilllaw04_TurnFews.mono : ∀ a0 a1 a2 k, LeO (walkmilllaw04_TurnFews.f k a0 a1 a2) (walkmilllaw04_TurnFews.f (k + 1) a0 a1 a2) := by
 intro a0 a1 a2 k
 unfold walkmilllaw04_TurnFews.f
 repeat' first
   | (with_reducible exact turn_Fewest.mono _ _ _ _)
   | (with_reducible exact walkmillref04_Fewest.mono _ _ _ _)
   | (with_reducible exact walkmillref04_Open.mono _ _ _ _ _)
   | (with_reducible exact walkmillref04_Same.mono _ _ _ _ _)
   | (with_reducible exact LeO.refl _)
   | (with_reducible exact LeO.none _)
   | (with_reducible refine LeO.ite ?_ ?_)
   | (with_reducible refine LeO.bind ?_ (fun _ => ?_))
   | exact turn_Fewest.mono _ _ _ _
   | exact walkmillref04_Fewest.mono _ _ _ _
   | exact walkmillref04_Open.mono _ _ _ _ _
   | exact walkmillref04_Same.mono _ _ _ _ _
   | exact LeO.none _
   | refine LeO.ite ?_ ?_
   | refine LeO.bind ?_ (fun _ => ?_)
set_option maxHeartbeats 8000000 in
set_option maxRecDepth 100000 in
theorem walkmilllaw04_TurnFews.calls_true (k : Nat) (A0_0 : Option Addr) (c0_0 : Nat) (l0_0 : List (S67)) (A0_1 : Option Addr) (c0_1 : Nat) (l0_1 : List Int) (a1 : Int) (r : Bool) (w : World) (hr0_0 : Kd.C k67 w A0_0 l0_0.length l0_0) (hc0_0 : l0_0.length ≤ c0_0) (hr0_1 : Kd.C (Kd.int .i64) w A0_1 l0_1.length l0_1) (hc0_1 : l0_1.length ≤ c0_1) (hrt : r = true) (h : walkmilllaw04_TurnFews.f k l0_0 l0_1 a1 = some r) :
  Calls Tryz.prog 5 #[.agg #[.slice A0_0 l0_0.length c0_0, .slice A0_1 l0_1.length c0_1], .int .i64 a1] w fun e w' => e = .returned (.bool r) ∧ Below w.heap.size w w' := by
 have hu25 := Tryz.underlying25
 have HRT := Aside0.mk hrt
 clear hrt
 have HR0_0 := Aside0.mk hr0_0
 have HC0_0 := Aside0.mk hc0_0
 clear hr0_0 hc0_0
 have HR0_1 := Aside0.mk hr0_1
 have HC0_1 := Aside0.mk hc0_1
 clear hr0_1 hc0_1
 have HB := Aside0.mk (Below.refl w.heap.size w)
 have H : ((walkmilllaw04_long.f l0_0 l0_1).bind fun t102 => (if t102 = true then ((walkmilllaw04_known.f).bind fun t103 => (some t103)) else ((walkmillref04_Copy.f l0_0 l0_1).bind fun bt104 => ((turn_Fewest.f k bt104.1 bt104.2 a1).bind fun bt111 => ((walkmillref04_Same.f k bt104.1 bt104.2 l0_0 l0_1).bind fun t113 => (if t113 = true then ((walkmillref04_Open.f k l0_0 l0_1 1 a1).bind fun t114 => (if t114 = 0 then (if bt111.2 = 0 then ((walkmillref04_Fewest.f k l0_0 l0_1 a1).bind fun t116 => (if bt111.1 = t116 then ((walkmilllaw04_known.f).bind fun t117 => (some t117)) else (some false))) else (some false)) else (if bt111.2 = t114 then (if bt111.1 = 0 then ((walkmilllaw04_known.f).bind fun t115 => (some t115)) else (some false)) else (some false)))) else (some false))))))) = some r := h
 clear h
 obtain ⟨t102, A3, H⟩ := bi H
 by_cases c4 : t102 = true
 ·subst c4
  rw [if_pos rfl] at H
  obtain ⟨t103, A5, H⟩ := bi H
  obtain rfl := Option.some.inj H
  go_enter Tryz.func5, Tryz.ntmps5
  go_wp2_with (first | ((with_reducible refine gate_dst (N := 2) rfl ?_); refine bx 2 #[.slice A0_0 l0_0.length c0_0, .slice A0_1 l0_1.length c0_1] 25 ?_; intro gb101 hg w6 hbox hb; have BK101 := hbox; have GW101 := gs HB hg; have GE101 := gs HB hg; replace HB := bs HB hb; clear hb hbox hg; obtain ⟨_, _, _, _⟩ := cf2 BK101) | ((with_reducible refine gc 16 rfl ?_); refine gL 10 Tryz.func16 #[.agg #[.slice A0_0 l0_0.length c0_0, .slice A0_1 l0_1.length c0_1]] ?_; (with_reducible refine (walkmilllaw04_long.calls _ _ l0_0 _ _ l0_1 true _ ?side1 ?side2 ?side3 ?side4 A3.out).mono ?_); (case side1 => exact pC (Kd.C_below HR0_0.out HB.out)); (case side2 => exact HC0_0.out); (case side3 => exact pC (Kd.C_below HR0_1.out HB.out)); (case side4 => exact HC0_1.out); rintro e w8 ⟨rfl, hb⟩; refine ⟨_, rfl, ?_⟩; replace BK101 := bb BK101 hb; replace HB := bs HB hb; clear hb) | ((with_reducible refine gc 17 rfl ?_); refine gL 11 Tryz.func17 #[] ?_; (with_reducible refine (walkmilllaw04_known.calls  t103 _ A5.out).mono ?_); rintro e w9 ⟨rfl, hb⟩; refine ⟨_, rfl, ?_⟩; replace BK101 := bb BK101 hb; replace HB := bs HB hb; clear hb))
  go_ret
  exact ⟨eT, pE HB⟩
 ·replace c4 := Bool.eq_false_iff.mpr c4
  subst c4
  rw [if_neg (show ¬ (false = true) by decide)] at H
  obtain ⟨⟨t104, t107⟩, A10, H⟩ := bi H
  obtain ⟨⟨t111, t112⟩, A11, H⟩ := bi H
  obtain ⟨t113, A12, H⟩ := bi H
  by_cases c13 : t113 = true
  ·subst c13
   rw [if_pos rfl] at H
   obtain ⟨t114, A14, H⟩ := bi H
   by_cases c15 : t114 = 0
   ·rw [if_pos c15] at H
    have c15b0 : (t114 == 0) = true := beq_iff_eq.mpr c15
    have c15b1 : (t114 != 0) = false := bne_eq_false_iff_eq.mpr c15
    clear c15
    by_cases c16 : t112 = 0
    ·rw [if_pos c16] at H
     have c16b0 : (t112 == 0) = true := beq_iff_eq.mpr c16
     have c16b1 : (t112 != 0) = false := bne_eq_false_iff_eq.mpr c16
     clear c16
     obtain ⟨t116, A17, H⟩ := bi H
     by_cases c18 : t111 = t116
     ·rw [if_pos c18] at H
      have c18b0 : (t111 == t116) = true := beq_iff_eq.mpr c18
      have c18b1 : (t111 != t116) = false := bne_eq_false_iff_eq.mpr c18
      clear c18
      obtain ⟨t117, A19, H⟩ := bi H
      obtain rfl := Option.some.inj H
      go_enter Tryz.func5, Tryz.ntmps5
      go_wp2_with (first | ((with_reducible refine gate_dst (N := 2) rfl ?_); refine bx 2 #[.slice A0_0 l0_0.length c0_0, .slice A0_1 l0_1.length c0_1] 25 ?_; intro gb101 hg w20 hbox hb; have BK101 := hbox; have GW101 := gs HB hg; have GE101 := gs HB hg; replace HB := bs HB hb; clear hb hbox hg; obtain ⟨_, _, _, _⟩ := cf2 BK101) | ((with_reducible refine gc 16 rfl ?_); refine gL 10 Tryz.func16 #[.agg #[.slice A0_0 l0_0.length c0_0, .slice A0_1 l0_1.length c0_1]] ?_; (with_reducible refine (walkmilllaw04_long.calls _ _ l0_0 _ _ l0_1 false _ ?side1 ?side2 ?side3 ?side4 A3.out).mono ?_); (case side1 => exact pC (Kd.C_below HR0_0.out HB.out)); (case side2 => exact HC0_0.out); (case side3 => exact pC (Kd.C_below HR0_1.out HB.out)); (case side4 => exact HC0_1.out); rintro e w22 ⟨rfl, hb⟩; refine ⟨_, rfl, ?_⟩; replace BK101 := bb BK101 hb; replace HB := bs HB hb; clear hb; obtain ⟨_, _, _, _⟩ := cf2 BK101) | ((with_reducible refine gc 18 rfl ?_); refine gL 13 Tryz.func18 #[.agg #[.slice A0_0 l0_0.length c0_0, .slice A0_1 l0_1.length c0_1]] ?_; (with_reducible refine (walkmillref04_Copy.calls _ _ l0_0 _ _ l0_1 t104 t107 _ ?side1 ?side2 ?side3 ?side4 A10.out).mono ?_); (case side1 => exact pC (Kd.C_below HR0_0.out HB.out)); (case side2 => exact HC0_0.out); (case side3 => exact pC (Kd.C_below HR0_1.out HB.out)); (case side4 => exact HC0_1.out); rintro e w24 ⟨v105, v108, rfl, ho0, ho1, hb⟩; refine ⟨_, rfl, ?_⟩; have HO106 := rl ho0 HB; have HO109 := rl ho1 HB; replace BK101 := bb BK101 hb; replace HB := bs HB hb; clear hb ho0 ho1) | ((with_reducible refine gate_dst (N := 5) rfl ?_); refine bx 5 #[.slice none 0 0, .slice none 0 0] 25 ?_; intro gb110 hg w25 hbox hb; replace HO106 := rb HO106 hb; replace HO109 := rb HO109 hb; have BK110 := hbox; have GW110 := gs HB hg; have GE110 := gs HB hg; replace HB := bs HB hb; have NB101_110 := nl BK101 hg; have NB110_101 := nr BK101 hg; replace BK101 := bb BK101 hb; clear hb hbox hg; obtain ⟨Ao26, co26, eo26⟩ := Kd.R_slice HO106.out; subst eo26; have hnb27 := NB110_101.out; have hnc27 := NB101_110.out; obtain ⟨_, _, _, _⟩ := cf2 BK110; obtain ⟨Ao29, co29, eo29⟩ := Kd.R_slice HO109.out; subst eo29) | ((with_reducible refine gc 33 rfl ?_); refine gL 17 Tryz.func33 #[.agg #[.slice Ao26 t104.length co26, .slice Ao29 t107.length co29], .int .i64 a1] ?_; (with_reducible refine (turn_Fewest.calls k _ _ t104 _ _ t107 a1 t111 t112 _ ?side1 ?side2 ?side3 ?side4 A11.out).mono ?_); (case side1 => refine (Kd.R_reads' (e := 67) (base := w.heap.size) (ok := fun k_ => True) (n := t104.length) (c := co26) ?_).2.2; exact (by refine pR ?_; exact (Kd.R_mono (Kd.R_far (p := ⟨gb110, 1, none⟩) (Kd.R_far (p := ⟨gb110, 0, none⟩) (Kd.R_types HO106.out BK110.out (by decide)) (fun _ hk => hk.2) (.slice Ao26 t104.length co26)) (fun _ hk => hk.2) (.slice Ao29 t107.length co29)) (fun _ h_ => h_.1)))); (case side2 => exact (Kd.R_reads' HO106.out).2.1); (case side3 => refine (Kd.R_reads' (e := 3) (base := w.heap.size) (ok := fun k_ => True) (n := t107.length) (c := co29) ?_).2.2; exact (by refine pR ?_; exact (Kd.R_mono (Kd.R_far (p := ⟨gb110, 1, none⟩) (Kd.R_far (p := ⟨gb110, 0, none⟩) (Kd.R_types HO109.out BK110.out (by decide)) (fun _ hk => hk.2) (.slice Ao26 t104.length co26)) (fun _ hk => hk.2) (.slice Ao29 t107.length co29)) (fun _ h_ => h_.1)))); (case side4 => exact (Kd.R_reads' HO109.out).2.1); rintro e w30 ⟨rfl, hb⟩; refine ⟨_, rfl, ?_⟩; replace HO106 := Aside0.mk (Kd.R_below (by refine pR ?_; exact (Kd.R_mono (Kd.R_far (p := ⟨gb110, 1, none⟩) (Kd.R_far (p := ⟨gb110, 0, none⟩) (Kd.R_types HO106.out BK110.out (by decide)) (fun _ hk => hk.2) (.slice Ao26 t104.length co26)) (fun _ hk => hk.2) (.slice Ao29 t107.length co29)) (fun _ h_ => h_.1))) hb); replace HO109 := Aside0.mk (Kd.R_below (by refine pR ?_; exact (Kd.R_mono (Kd.R_far (p := ⟨gb110, 1, none⟩) (Kd.R_far (p := ⟨gb110, 0, none⟩) (Kd.R_types HO109.out BK110.out (by decide)) (fun _ hk => hk.2) (.slice Ao26 t104.length co26)) (fun _ hk => hk.2) (.slice Ao29 t107.length co29)) (fun _ h_ => h_.1))) hb); replace BK101 := bf BK101 hb; replace BK110 := Aside0.mk (blk_below (g := gb110) (o := .cells #[.slice Ao26 t104.length co26, .slice Ao29 t107.length co29] 25 (0, 0)) (by refine pB ?_; refine blk_put (cs := #[.slice Ao26 t104.length co26, .slice none 0 0]) ?_ 1 _ rfl; refine pB ?_; refine blk_put (cs := #[.slice none 0 0, .slice none 0 0]) ?_ 0 _ rfl; (with_reducible repeat (first | refine blk_drewN ?_ _ | refine blk_drew ?_ | refine blk_alloc ?_ _)); exact BK110.out) hb); replace HB := bs HB hb; clear hb; obtain ⟨_, _, _, _⟩ := cf2 BK110; obtain ⟨_, _, _, _⟩ := cf2 BK101) | ((with_reducible refine gc 22 rfl ?_); refine gL 22 Tryz.func22 #[.agg #[.slice Ao26 t104.length co26, .slice Ao29 t107.length co29], .agg #[.slice A0_0 l0_0.length c0_0, .slice A0_1 l0_1.length c0_1]] ?_; (with_reducible refine (walkmillref04_Same.calls k _ _ t104 _ _ t107 _ _ l0_0 _ _ l0_1 true _ ?side1 ?side2 ?side3 ?side4 ?side5 ?side6 ?side7 ?side8 A12.out).mono ?_); (case side1 => exact pC (Kd.R_reads' HO106.out).2.2); (case side2 => exact (Kd.R_reads' HO106.out).2.1); (case side3 => exact pC (Kd.R_reads' HO109.out).2.2); (case side4 => exact (Kd.R_reads' HO109.out).2.1); (case side5 => exact pC (Kd.C_below HR0_0.out HB.out)); (case side6 => exact HC0_0.out); (case side7 => exact pC (Kd.C_below HR0_1.out HB.out)); (case side8 => exact HC0_1.out); rintro e w33 ⟨rfl, hb⟩; refine ⟨_, rfl, ?_⟩; replace HO106 := rb HO106 hb; replace HO109 := rb HO109 hb; replace BK101 := bb BK101 hb; replace BK110 := bb BK110 hb; replace HB := bs HB hb; clear hb; obtain ⟨_, _, _, _⟩ := cf2 BK101) | ((with_reducible refine gc 28 rfl ?_); refine gL 26 Tryz.func28 #[.agg #[.slice A0_0 l0_0.length c0_0, .slice A0_1 l0_1.length c0_1], .int .i64 1, .int .i64 a1] ?_; (with_reducible refine (walkmillref04_Open.calls k _ _ l0_0 _ _ l0_1 1 a1 t114 _ ?side1 ?side2 ?side3 ?side4 A14.out).mono ?_); (case side1 => exact pC (Kd.C_below HR0_0.out HB.out)); (case side2 => exact HC0_0.out); (case side3 => exact pC (Kd.C_below HR0_1.out HB.out)); (case side4 => exact HC0_1.out); rintro e w35 ⟨rfl, hb⟩; refine ⟨_, rfl, ?_⟩; replace HO106 := rb HO106 hb; replace HO109 := rb HO109 hb; replace BK101 := bb BK101 hb; replace BK110 := bb BK110 hb; replace HB := bs HB hb; clear hb; obtain ⟨_, _, _, _⟩ := cf2 BK101) | (go_at_call 34; (with_reducible refine (walkmillref04_Fewest.calls k _ _ l0_0 _ _ l0_1 a1 t116 _ ?side1 ?side2 ?side3 ?side4 A17.out).mono ?_); (case side1 => exact pC (Kd.C_below HR0_0.out HB.out)); (case side2 => exact HC0_0.out); (case side3 => exact pC (Kd.C_below HR0_1.out HB.out)); (case side4 => exact HC0_1.out); rintro e w37 ⟨rfl, hb⟩; replace HO106 := rb HO106 hb; replace HO109 := rb HO109 hb; replace BK101 := bb BK101 hb; replace BK110 := bb BK110 hb; replace HB := bs HB hb; (try clear hb); (try clear hb2); (try clear hk); (try clear hi)) | (go_at_call 17; (with_reducible refine (walkmilllaw04_known.calls  t117 _ A19.out).mono ?_); rintro e w38 ⟨rfl, hb⟩; replace HO106 := rb HO106 hb; replace HO109 := rb HO109 hb; replace BK101 := bb BK101 hb; replace BK110 := bb BK110 hb; replace HB := bs HB hb; (try clear hb); (try clear hb2); (try clear hk); (try clear hi)))
      go_ret
      exact ⟨eT, pE HB⟩
     ·rw [if_neg c18] at H
      have c18b0 : (t111 == t116) = false := beq_eq_false_iff_ne.mpr c18
      have c18b1 : (t111 != t116) = true := bne_iff_ne.mpr c18
      exact absurd ((Option.some.inj H).trans HRT.out) (by simp)
    ·rw [if_neg c16] at H
     have c16b0 : (t112 == 0) = false := beq_eq_false_iff_ne.mpr c16
     have c16b1 : (t112 != 0) = true := bne_iff_ne.mpr c16
     exact absurd ((Option.some.inj H).trans HRT.out) (by simp)
   ·rw [if_neg c15] at H
    have c15b0 : (t114 == 0) = false := beq_eq_false_iff_ne.mpr c15
    have c15b1 : (t114 != 0) = true := bne_iff_ne.mpr c15
    by_cases c39 : t112 = t114
    ·rw [if_pos c39] at H
     have c39b0 : (t112 == t114) = true := beq_iff_eq.mpr c39
     have c39b1 : (t112 != t114) = false := bne_eq_false_iff_eq.mpr c39
     clear c39
     by_cases c40 : t111 = 0
     ·rw [if_pos c40] at H
      have c40b0 : (t111 == 0) = true := beq_iff_eq.mpr c40
      have c40b1 : (t111 != 0) = false := bne_eq_false_iff_eq.mpr c40
      clear c40
      obtain ⟨t115, A41, H⟩ := bi H
      obtain rfl := Option.some.inj H
      go_enter Tryz.func5, Tryz.ntmps5
      go_wp2_with (first | ((with_reducible refine gate_dst (N := 2) rfl ?_); refine bx 2 #[.slice A0_0 l0_0.length c0_0, .slice A0_1 l0_1.length c0_1] 25 ?_; intro gb101 hg w42 hbox hb; have BK101 := hbox; have GW101 := gs HB hg; have GE101 := gs HB hg; replace HB := bs HB hb; clear hb hbox hg; obtain ⟨_, _, _, _⟩ := cf2 BK101) | ((with_reducible refine gc 16 rfl ?_); refine gL 10 Tryz.func16 #[.agg #[.slice A0_0 l0_0.length c0_0, .slice A0_1 l0_1.length c0_1]] ?_; (with_reducible refine (walkmilllaw04_long.calls _ _ l0_0 _ _ l0_1 false _ ?side1 ?side2 ?side3 ?side4 A3.out).mono ?_); (case side1 => exact pC (Kd.C_below HR0_0.out HB.out)); (case side2 => exact HC0_0.out); (case side3 => exact pC (Kd.C_below HR0_1.out HB.out)); (case side4 => exact HC0_1.out); rintro e w44 ⟨rfl, hb⟩; refine ⟨_, rfl, ?_⟩; replace BK101 := bb BK101 hb; replace HB := bs HB hb; clear hb; obtain ⟨_, _, _, _⟩ := cf2 BK101) | ((with_reducible refine gc 18 rfl ?_); refine gL 13 Tryz.func18 #[.agg #[.slice A0_0 l0_0.length c0_0, .slice A0_1 l0_1.length c0_1]] ?_; (with_reducible refine (walkmillref04_Copy.calls _ _ l0_0 _ _ l0_1 t104 t107 _ ?side1 ?side2 ?side3 ?side4 A10.out).mono ?_); (case side1 => exact pC (Kd.C_below HR0_0.out HB.out)); (case side2 => exact HC0_0.out); (case side3 => exact pC (Kd.C_below HR0_1.out HB.out)); (case side4 => exact HC0_1.out); rintro e w46 ⟨v105, v108, rfl, ho0, ho1, hb⟩; refine ⟨_, rfl, ?_⟩; have HO106 := rl ho0 HB; have HO109 := rl ho1 HB; replace BK101 := bb BK101 hb; replace HB := bs HB hb; clear hb ho0 ho1) | ((with_reducible refine gate_dst (N := 5) rfl ?_); refine bx 5 #[.slice none 0 0, .slice none 0 0] 25 ?_; intro gb110 hg w47 hbox hb; replace HO106 := rb HO106 hb; replace HO109 := rb HO109 hb; have BK110 := hbox; have GW110 := gs HB hg; have GE110 := gs HB hg; replace HB := bs HB hb; have NB101_110 := nl BK101 hg; have NB110_101 := nr BK101 hg; replace BK101 := bb BK101 hb; clear hb hbox hg; obtain ⟨Ao48, co48, eo48⟩ := Kd.R_slice HO106.out; subst eo48; have hnb49 := NB110_101.out; have hnc49 := NB101_110.out; obtain ⟨_, _, _, _⟩ := cf2 BK110; obtain ⟨Ao51, co51, eo51⟩ := Kd.R_slice HO109.out; subst eo51) | ((with_reducible refine gc 33 rfl ?_); refine gL 17 Tryz.func33 #[.agg #[.slice Ao48 t104.length co48, .slice Ao51 t107.length co51], .int .i64 a1] ?_; (with_reducible refine (turn_Fewest.calls k _ _ t104 _ _ t107 a1 t111 t112 _ ?side1 ?side2 ?side3 ?side4 A11.out).mono ?_); (case side1 => refine (Kd.R_reads' (e := 67) (base := w.heap.size) (ok := fun k_ => True) (n := t104.length) (c := co48) ?_).2.2; exact (by refine pR ?_; exact (Kd.R_mono (Kd.R_far (p := ⟨gb110, 1, none⟩) (Kd.R_far (p := ⟨gb110, 0, none⟩) (Kd.R_types HO106.out BK110.out (by decide)) (fun _ hk => hk.2) (.slice Ao48 t104.length co48)) (fun _ hk => hk.2) (.slice Ao51 t107.length co51)) (fun _ h_ => h_.1)))); (case side2 => exact (Kd.R_reads' HO106.out).2.1); (case side3 => refine (Kd.R_reads' (e := 3) (base := w.heap.size) (ok := fun k_ => True) (n := t107.length) (c := co51) ?_).2.2; exact (by refine pR ?_; exact (Kd.R_mono (Kd.R_far (p := ⟨gb110, 1, none⟩) (Kd.R_far (p := ⟨gb110, 0, none⟩) (Kd.R_types HO109.out BK110.out (by decide)) (fun _ hk => hk.2) (.slice Ao48 t104.length co48)) (fun _ hk => hk.2) (.slice Ao51 t107.length co51)) (fun _ h_ => h_.1)))); (case side4 => exact (Kd.R_reads' HO109.out).2.1); rintro e w52 ⟨rfl, hb⟩; refine ⟨_, rfl, ?_⟩; replace HO106 := Aside0.mk (Kd.R_below (by refine pR ?_; exact (Kd.R_mono (Kd.R_far (p := ⟨gb110, 1, none⟩) (Kd.R_far (p := ⟨gb110, 0, none⟩) (Kd.R_types HO106.out BK110.out (by decide)) (fun _ hk => hk.2) (.slice Ao48 t104.length co48)) (fun _ hk => hk.2) (.slice Ao51 t107.length co51)) (fun _ h_ => h_.1))) hb); replace HO109 := Aside0.mk (Kd.R_below (by refine pR ?_; exact (Kd.R_mono (Kd.R_far (p := ⟨gb110, 1, none⟩) (Kd.R_far (p := ⟨gb110, 0, none⟩) (Kd.R_types HO109.out BK110.out (by decide)) (fun _ hk => hk.2) (.slice Ao48 t104.length co48)) (fun _ hk => hk.2) (.slice Ao51 t107.length co51)) (fun _ h_ => h_.1))) hb); replace BK101 := bf BK101 hb; replace BK110 := Aside0.mk (blk_below (g := gb110) (o := .cells #[.slice Ao48 t104.length co48, .slice Ao51 t107.length co51] 25 (0, 0)) (by refine pB ?_; refine blk_put (cs := #[.slice Ao48 t104.length co48, .slice none 0 0]) ?_ 1 _ rfl; refine pB ?_; refine blk_put (cs := #[.slice none 0 0, .slice none 0 0]) ?_ 0 _ rfl; (with_reducible repeat (first | refine blk_drewN ?_ _ | refine blk_drew ?_ | refine blk_alloc ?_ _)); exact BK110.out) hb); replace HB := bs HB hb; clear hb; obtain ⟨_, _, _, _⟩ := cf2 BK110; obtain ⟨_, _, _, _⟩ := cf2 BK101) | ((with_reducible refine gc 22 rfl ?_); refine gL 22 Tryz.func22 #[.agg #[.slice Ao48 t104.length co48, .slice Ao51 t107.length co51], .agg #[.slice A0_0 l0_0.length c0_0, .slice A0_1 l0_1.length c0_1]] ?_; (with_reducible refine (walkmillref04_Same.calls k _ _ t104 _ _ t107 _ _ l0_0 _ _ l0_1 true _ ?side1 ?side2 ?side3 ?side4 ?side5 ?side6 ?side7 ?side8 A12.out).mono ?_); (case side1 => exact pC (Kd.R_reads' HO106.out).2.2); (case side2 => exact (Kd.R_reads' HO106.out).2.1); (case side3 => exact pC (Kd.R_reads' HO109.out).2.2); (case side4 => exact (Kd.R_reads' HO109.out).2.1); (case side5 => exact pC (Kd.C_below HR0_0.out HB.out)); (case side6 => exact HC0_0.out); (case side7 => exact pC (Kd.C_below HR0_1.out HB.out)); (case side8 => exact HC0_1.out); rintro e w55 ⟨rfl, hb⟩; refine ⟨_, rfl, ?_⟩; replace HO106 := rb HO106 hb; replace HO109 := rb HO109 hb; replace BK101 := bb BK101 hb; replace BK110 := bb BK110 hb; replace HB := bs HB hb; clear hb; obtain ⟨_, _, _, _⟩ := cf2 BK101) | ((with_reducible refine gc 28 rfl ?_); refine gL 26 Tryz.func28 #[.agg #[.slice A0_0 l0_0.length c0_0, .slice A0_1 l0_1.length c0_1], .int .i64 1, .int .i64 a1] ?_; (with_reducible refine (walkmillref04_Open.calls k _ _ l0_0 _ _ l0_1 1 a1 t114 _ ?side1 ?side2 ?side3 ?side4 A14.out).mono ?_); (case side1 => exact pC (Kd.C_below HR0_0.out HB.out)); (case side2 => exact HC0_0.out); (case side3 => exact pC (Kd.C_below HR0_1.out HB.out)); (case side4 => exact HC0_1.out); rintro e w57 ⟨rfl, hb⟩; refine ⟨_, rfl, ?_⟩; replace HO106 := rb HO106 hb; replace HO109 := rb HO109 hb; replace BK101 := bb BK101 hb; replace BK110 := bb BK110 hb; replace HB := bs HB hb; clear hb) | (go_at_call 17; (with_reducible refine (walkmilllaw04_known.calls  t115 _ A41.out).mono ?_); rintro e w58 ⟨rfl, hb⟩; replace HO106 := rb HO106 hb; replace HO109 := rb HO109 hb; replace BK101 := bb BK101 hb; replace BK110 := bb BK110 hb; replace HB := bs HB hb; (try clear hb); (try clear hb2); (try clear hk); (try clear hi)))
      go_ret
      exact ⟨eT, pE HB⟩
     ·rw [if_neg c40] at H
      have c40b0 : (t111 == 0) = false := beq_eq_false_iff_ne.mpr c40
      have c40b1 : (t111 != 0) = true := bne_iff_ne.mpr c40
      exact absurd ((Option.some.inj H).trans HRT.out) (by simp)
    ·rw [if_neg c39] at H
     have c39b0 : (t112 == t114) = false := beq_eq_false_iff_ne.mpr c39
     have c39b1 : (t112 != t114) = true := bne_iff_ne.mpr c39
     exact absurd ((Option.some.inj H).trans HRT.out) (by simp)
  ·replace c13 := Bool.eq_false_iff.mpr c13
   subst c13
   rw [if_neg (show ¬ (false = true) by decide)] at H
   exact absurd ((Option.some.inj H).trans HRT.out) (by simp)
end Go.Proofs.YtlmglnobdcgbeaaGreat.P
namespace Go.Proofs.YtlmglnobdcgbeaaGreat.P
open Go.RowKit Go.Proofs.YtlmglnobdcgbeaaGreatW.PrintWords Go.Proofs.YtlmglnobdcgbeaaGreatW.PrintLast Go.Proofs.YtlmglnobdcgbeaaGreatW.PrintMore
theorem TurnFews_yes (cl : List S67) (rk : List Int) (L : Int) : ∃ k, walkmilllaw04_TurnFews.f k cl rk L = some true := by
  refine ⟨5001, ?_⟩
  unfold walkmilllaw04_TurnFews.f
  rw [long_eq, Option.bind_some]
  by_cases hl : 20 < cl.length ∨ 10 < rk.length
  · have e : (decide (20 < cl.length) || decide (10 < rk.length)) = true := by simpa using hl
    rw [e, if_pos rfl]
    rfl
  have e : (decide (20 < cl.length) || decide (10 < rk.length)) = false := by simpa using hl
  rw [e, if_neg (by simp), copy_eq cl rk (by omega) (by omega), Option.bind_some]
  unfold turn_Fewest.f walkmillref04_Fewest.f
  rw [open_eq cl rk (by omega) 1 L 5001 (by omega), Option.bind_some, rOpen_eq cl rk (by omega) (by omega) 1 L 5001 (by omega), rSame_eq 5001 cl rk (by omega) (by omega) (by omega)]
  simp only []
  generalize hE : (if chk cl rk = 0 then (if (isIn 1 5 1 && isIn 0 500 L) = true then 0 else 3) else chk cl rk : Int) = E
  by_cases h : E = 0
  · subst h
    have hc : chk cl rk = 0 := by
      by_cases h : chk cl rk = 0
      · exact h
      · rw [if_neg h] at hE; exact hE
    have v := valid_of hc
    have hL : 0 ≤ L := by
      rw [if_pos hc] at hE
      by_cases h : (isIn 1 5 1 && isIn 0 500 L) = true
      · simp only [isIn, Bool.and_eq_true, decide_eq_true_eq] at h; exact h.2.1
      · rw [if_neg h] at hE; cases hE
    obtain ⟨s, h1, h2⟩ := few_l v L hL 11 1 5001 5001 rfl (by omega) (by omega) (by omega)
    simp only [Int.ofNat_one, Int.natCast_one] at h1 h2
    rw [if_pos rfl, show turn_Fewest.l0 5001 L 1 cl rk = _ from h1, Option.bind_some, Option.bind_some, if_pos rfl, Option.bind_some, if_pos rfl, if_pos rfl, show walkmillref04_Fewest.l0 5001 L 1 cl rk = _ from h2, Option.bind_some, if_pos rfl]
    rfl
  · rw [if_neg h, Option.bind_some, Option.bind_some, if_pos rfl, Option.bind_some, if_neg h, if_pos rfl, if_pos rfl]
    rfl
end Go.Proofs.YtlmglnobdcgbeaaGreat.P
namespace Go.Proofs.YtlmglnobdcgbeaaGreat.P
open Go.RowKit Go.ChangeShapes Go.WideShapes Go.Deep Go.Proofs.YtlmglnobdcgbeaaGreatW.PrintWords Go.Proofs.YtlmglnobdcgbeaaGreatW.PrintLast Go.Proofs.YtlmglnobdcgbeaaGreatW.PrintMore
structure Opens {α : Type} (P : Program) (d : Kd α) (t : TypeId) (B : α → Prop) : Prop where
  sz : P.cellsOf t = d.sz
  op : ∀ (H : Type) (enc : TypeId × Value → H) (w : World) (base : Nat) (spare : Nat → Bool) (held : Bool) (n : Nat) (cs : List Value) (x : DataW H × List MemPlace), DataW.trod enc P w base spare held n t cs = some x → ∃ p, d.K w p cs ∧ B p
theorem Opens.int {P : Program} {t : TypeId} {k : IntKind} (ht : P.underlying t = some (.int k)) (hc : P.cellsOf t = 1) : Opens P (Kd.int k) t (fun n => (Lit.int k n).wf = true) :=
  ⟨hc, fun H enc w base spare held n cs x h => by
    obtain ⟨m, rfl, _, hw⟩ := DataW.trod_int ht h
    exact ⟨m, rfl, hw⟩⟩
theorem Opens.bool {P : Program} {t : TypeId} (ht : P.underlying t = some .bool) (hc : P.cellsOf t = 1) : Opens P Kd.bool t (fun _ => True) :=
  ⟨hc, fun H enc w base spare held n cs x h => by
    obtain ⟨b, rfl, _⟩ := DataW.trod_bool ht h
    exact ⟨b, rfl, trivial⟩⟩
theorem Opens.imp {α : Type} {P : Program} {d : Kd α} {t : TypeId} {B B' : α → Prop} (h : Opens P d t B) (hb : ∀ x, B x → B' x) : Opens P d t B' :=
  ⟨h.sz, fun H enc w base spare held n cs x hx => by obtain ⟨p, h1, h2⟩ := h.op H enc w base spare held n cs x hx; exact ⟨p, h1, hb p h2⟩⟩
theorem choose_list {α : Type} {Q : Nat → α → Prop} : ∀ (n : Nat), (∀ i, i < n → ∃ p, Q i p) → ∃ l : List α, l.length = n ∧ ∀ i p, l[i]? = some p → Q i p
  | 0, _ => ⟨[], rfl, fun i p h => by simp at h⟩
  | n + 1, h => by
    obtain ⟨l, hl, hq⟩ := choose_list n (fun i hi => h i (by omega))
    obtain ⟨p, hp⟩ := h n (by omega)
    refine ⟨l ++ [p], by simp [hl], fun i q hi => ?_⟩
    rcases Nat.lt_or_ge i l.length with h1 | h1
    · rw [List.getElem?_append_left h1] at hi
      exact hq i q hi
    · have : i = n := by
        have := (List.getElem?_eq_some_iff.1 hi).1
        simp at this
        omega
      subst this
      rw [List.getElem?_append_right h1, hl, Nat.sub_self] at hi
      obtain rfl : p = q := by simpa using hi
      exact hp
theorem Opens.slice {α : Type} {P : Program} {d : Kd α} {t e : TypeId} {B : α → Prop} (h : Opens P d e B) (ht : P.underlying t = some (.slice e)) (hc : P.cellsOf t = 1) : Opens P (Kd.slice e d) t (fun l => ∀ x ∈ l, B x) :=
  ⟨hc, fun H enc w base spare held n cs x hx => by
    rcases open_slice ht hx with ⟨rfl, _⟩ | ⟨a, len, cap, m, n', D, Pl, rfl, hb, hl, hm, hmm, _, hi⟩
    · exact ⟨[], ⟨none, 0, rfl, Nat.le_refl _, Kd.C_nil _ _⟩, fun x hx => by cases hx⟩
    · obtain ⟨l, hll, hq⟩ := choose_list (Q := fun i p => (∃ cs', d.K w p cs' ∧ ∀ j, j < d.sz → w.cell? (a.add (i * d.sz + j)) = cs'[j]?) ∧ B p) len (fun i hi' => by
        obtain ⟨cs', hcs, htr⟩ := hi i (by rw [hmm]; split <;> omega)
        obtain ⟨p, hk, hp⟩ := h.op H enc w base spare held n' cs' _ htr
        obtain ⟨_, hcl, hat⟩ := World.cells?_some hcs
        rw [h.sz] at hat
        exact ⟨p, ⟨cs', hk, fun j hj => by
          have := hat j hj
          rw [Go.Deep.add_add] at this
          exact this⟩, hp⟩)
      refine ⟨l, ⟨some a, cap, by rw [hll], by rw [hll]; exact hl, ⟨rfl, by rw [hll]; simp only [maxLen] at hm; omega, fun h0 => ⟨a, rfl, fun j p hj => ?_⟩⟩⟩, fun x hx => ?_⟩
      · obtain ⟨⟨cs', hk, hat⟩, _⟩ := hq j p hj
        refine ⟨cs', d.K_len hk, hk, fun i u hu => ?_⟩
        have hi' : i < d.sz := by have := (List.getElem?_eq_some_iff.1 hu).1; rw [d.K_len hk] at this; exact this
        rw [hat i hi', hu]
      · obtain ⟨i, hi'⟩ := List.getElem?_of_mem hx
        exact (hq i x hi').2⟩
def OpensS {α : Type} (P : Program) (fs : Array Field) (j off : Nat) (d : Kd α) (B : α → Prop) : Prop :=
  ∀ (H : Type) (enc : TypeId × Value → H) (w : World) (base : Nat) (spare : Nat → Bool) (held : Bool) (n : Nat) (cs : List Value) (xs : List (DataW H × List MemPlace)), xs.length = fs.size →
    (∀ (i : Nat) (f : Field), fs[i]? = some f → DataW.trod enc P w base spare held n f.type ((cs.drop f.offset).take (P.cellsOf f.type)) = xs[i]?) → ∃ p, d.K w p ((cs.drop off).take d.sz) ∧ B p
theorem OpensS.one {α : Type} {P : Program} {fs : Array Field} {j off : Nat} {d : Kd α} {B : α → Prop} (f : Field) (hf : fs[j]? = some f) (ho : f.offset = off) (h : Opens P d f.type B) : OpensS P fs j off d B := by
  intro H enc w base spare held n cs xs hl hx
  have h1 := hx j f hf
  have hj : j < xs.length := by rw [hl]; exact (Array.getElem?_eq_some_iff.1 hf).1
  rw [List.getElem?_eq_getElem hj, ho, h.sz] at h1
  exact h.op H enc w base spare held n _ _ h1
theorem OpensS.cons {α β : Type} {P : Program} {fs : Array Field} {j off : Nat} {d : Kd α} {d' : Kd β} {B : α → Prop} {B' : β → Prop} (h : OpensS P fs j off d B) (h' : OpensS P fs (j + 1) (off + d.sz) d' B') : OpensS P fs j off (Kd.pair d d') (fun p => B p.1 ∧ B' p.2) := by
  intro H enc w base spare held n cs xs hl hx
  obtain ⟨p, h1, h2⟩ := h H enc w base spare held n cs xs hl hx
  obtain ⟨q, h3, h4⟩ := h' H enc w base spare held n cs xs hl hx
  refine ⟨(p, q), ⟨_, _, ?_, h1, h3⟩, h2, h4⟩
  show (cs.drop off).take (d.sz + d'.sz) = _
  rw [List.take_add, List.drop_drop]
theorem OpensS.iso {α β : Type} {P : Program} {fs : Array Field} {j off : Nat} {d : Kd α} {B : α → Prop} (h : OpensS P fs j off d B) (f : β → α) (g : α → β) (hg : ∀ a, f (g a) = a) : OpensS P fs j off (Kd.iso d f) (fun y => B (f y)) := by
  intro H enc w base spare held n cs xs hl hx
  obtain ⟨p, h1, h2⟩ := h H enc w base spare held n cs xs hl hx
  exact ⟨g p, by show d.K w (f (g p)) _; rw [hg]; exact h1, by show B (f (g p)); rw [hg]; exact h2⟩
theorem Opens.struct {α : Type} {P : Program} {fs : Array Field} {d : Kd α} {t : TypeId} {B : α → Prop} (h : OpensS P fs 0 0 d B) (ht : P.underlying t = some (.struct fs)) (hc : P.cellsOf t = d.sz) : Opens P d t B :=
  ⟨hc, fun H enc w base spare held n cs x hx => by
    obtain ⟨xs, n', _, _, hcl, hl, hf⟩ := DataW.trod_struct ht hx
    obtain ⟨p, h1, h2⟩ := h H enc w base spare held n' cs xs hl hf
    refine ⟨p, ?_, h2⟩
    rw [List.drop_zero, List.take_of_length_le (by rw [hcl, hc]; exact Nat.le_refl _)] at h1
    exact h1⟩
theorem Opens.array {α : Type} {P : Program} {fs : Array Field} {d : Kd α} {t e : TypeId} {n : Nat} {B : α → Prop} (h : OpensS P fs 0 0 d B) (ht : P.underlying t = some (.array n e)) (hc : P.cellsOf t = d.sz) (he : P.cellsOf e = 1) (hn : fs.size = n) (hf : ∀ i : Fin fs.size, fs[i].type = e ∧ fs[i].offset = i.val) : Opens P d t B :=
  ⟨hc, fun H enc w base spare held n' cs x hx => by
    obtain ⟨xs, m, _, _, hcl, hl, hg⟩ := DataW.trod_array ht hx
    obtain ⟨p, h1, h2⟩ := h H enc w base spare held m cs xs (by rw [hl, hn]) (fun i f hi => by
      obtain ⟨hi', rfl⟩ := Array.getElem?_eq_some_iff.1 hi
      obtain ⟨e1, e2⟩ := hf ⟨i, hi'⟩
      have e1' : fs[i].type = e := e1
      have e2' : fs[i].offset = i := e2
      have := hg i (by rw [← hn]; exact hi')
      rw [he, Nat.mul_one] at this
      rw [e1', e2', he]; exact this)
    refine ⟨p, ?_, h2⟩
    rw [List.drop_zero, List.take_of_length_le (by rw [hcl, hc]; exact Nat.le_refl _)] at h1
    exact h1⟩
theorem Opens.arg {α : Type} {P : Program} {d : Kd α} {t : TypeId} {B : α → Prop} (h : Opens P d t B) {H : Type} {enc : TypeId × Value → H} {w : World} {base : Nat} {spare : Nat → Bool} {held : Bool} {v : Value} {x : DataW H} {ps : List MemPlace} (hx : DataW.Trod enc P w base spare held t v x ps) :
    ∃ p : α, d.K w p v.cells.toList ∧ B p := by
  obtain ⟨n, hn⟩ := hx
  exact h.op H enc w base spare held n _ _ hn
theorem agg_cells {v : Value} {l : List Value} (h : v.cells.toList = l) (hl : 2 ≤ l.length) : v = .agg l.toArray := by
  cases v with
  | agg x => simp only [Value.cells] at h; rw [← h]
  | _ => simp only [Value.cells] at h; subst h; simp at hl
end Go.Proofs.YtlmglnobdcgbeaaGreat.P
namespace Go.Proofs.YtlmglnobdcgbeaaGreat.P
open Go.RowKit Go.Proofs.YtlmglnobdcgbeaaGreatW.PrintWords
def IsK (k : IntKind) (n : Int) : Prop := (Lit.int k n).wf = true
theorem O_i64 : Opens Tryz.prog (Kd.int .i64) 3 (IsK .i64) := Opens.int Tryz.underlying3 (by kernel_rfl)
def B42 (x : S42) : Prop := (IsK .i64) x.f0 ∧ (IsK .i64) x.f1
theorem O42 : Opens Tryz.prog k42 42 B42 := by
  refine Opens.struct ?_ Tryz.underlying42 (by kernel_rfl)
  refine OpensS.iso (d := (Kd.pair (Kd.int .i64) (Kd.int .i64))) (B := fun p => (IsK .i64) p.1 ∧ (IsK .i64) p.2) ?_ (fun x : S42 => (x.f0, x.f1)) (fun p => ⟨p.1, p.2⟩) (fun _ => rfl)
  refine OpensS.cons (B := IsK .i64) (B' := fun p : Int => (IsK .i64) p) ?_ ?_
  · exact OpensS.one _ rfl rfl O_i64
  exact OpensS.one _ rfl rfl O_i64
def B67 (x : S67) : Prop := (IsK .i64) x.f0 ∧ (IsK .i64) x.f1 ∧ (B42) x.f2
theorem O67 : Opens Tryz.prog k67 67 B67 := by
  refine Opens.struct ?_ Tryz.underlying67 (by kernel_rfl)
  refine OpensS.iso (d := (Kd.pair (Kd.int .i64) (Kd.pair (Kd.int .i64) k42))) (B := fun p => (IsK .i64) p.1 ∧ (IsK .i64) p.2.1 ∧ (B42) p.2.2) ?_ (fun x : S67 => (x.f0, x.f1, x.f2)) (fun p => ⟨p.1, p.2.1, p.2.2⟩) (fun _ => rfl)
  refine OpensS.cons (B := IsK .i64) (B' := fun p : Int × S42 => (IsK .i64) p.1 ∧ (B42) p.2) ?_ ?_
  · exact OpensS.one _ rfl rfl O_i64
  refine OpensS.cons (B := IsK .i64) (B' := fun p : S42 => (B42) p) ?_ ?_
  · exact OpensS.one _ rfl rfl O_i64
  exact OpensS.one _ rfl rfl O42
def B25 (x : S25) : Prop := (fun l => ∀ x ∈ l, (B67) x) x.f0 ∧ (fun l => ∀ x ∈ l, (IsK .i64) x) x.f1
theorem O25 : Opens Tryz.prog k25 25 B25 := by
  refine Opens.struct ?_ Tryz.underlying25 (by kernel_rfl)
  refine OpensS.iso (d := (Kd.pair (Kd.slice 67 k67) (Kd.slice 3 (Kd.int .i64)))) (B := fun p => (fun l => ∀ x ∈ l, (B67) x) p.1 ∧ (fun l => ∀ x ∈ l, (IsK .i64) x) p.2) ?_ (fun x : S25 => (x.f0, x.f1)) (fun p => ⟨p.1, p.2⟩) (fun _ => rfl)
  refine OpensS.cons (B := fun l => ∀ x ∈ l, (B67) x) (B' := fun p : (List Int) => (fun l => ∀ x ∈ l, (IsK .i64) x) p) ?_ ?_
  · exact OpensS.one _ rfl rfl (Opens.slice O67 Tryz.underlying22 (by kernel_rfl))
  exact OpensS.one _ rfl rfl (Opens.slice O_i64 Tryz.underlying23 (by kernel_rfl))
end Go.Proofs.YtlmglnobdcgbeaaGreat.P
