/- Part 3 of what the law's proof needs: words, walks of functions and plain facts. -/
import Derived.Test.YtlmglnobdcgbeaaGreatF01
import Derived.Test.YtlmglnobdcgbeaaGreatF02
set_option linter.unusedVariables false
set_option linter.unusedSimpArgs false
namespace Go.Proofs.YtlmglnobdcgbeaaGreat.P
open Go.RowKit Go.Proofs.YtlmglnobdcgbeaaGreatW.PrintWords Go.Proofs.YtlmglnobdcgbeaaGreatW.PrintLast Go.Proofs.YtlmglnobdcgbeaaGreatW.PrintMore
attribute [local go_sem] max2_int min2_int max_two min_two max_three min_three max_four min_four
def turn_day_before.f (k : Nat) (l0_0 : List (S67)) (l0_1 : List Int) (a1 : Int) (a2 : Int) : Option (Int) := if 0 ≤ a1 then (if a1 < (l0_0.length : Int) then (if 0 ≤ a2 then (if a2 < (l0_0.length : Int) then ((turn_day_nth.f k l0_0 l0_1 a1).bind fun t106 => ((turn_day_nth.f k l0_0 l0_1 a2).bind fun t107 => (if 0 ≤ ((rd_T67 l0_0 a1).f0) then (if ((rd_T67 l0_0 a1).f0) < (l0_1.length : Int) then (if 0 ≤ ((rd_T67 l0_0 a2).f0) then (if ((rd_T67 l0_0 a2).f0) < (l0_1.length : Int) then ((cmp_Or_int.f k (([wrap64 (((rd_T67 l0_0 a1).f1) - ((rd_T67 l0_0 a2).f1)), wrap64 (t106 - t107), wrap64 ((rd l0_1 ((rd_T67 l0_0 a1).f0)) - (rd l0_1 ((rd_T67 l0_0 a2).f0))), wrap64 (a1 - a2)] : List Int))).bind fun t113 => (some t113)) else (none)) else (none)) else (none)) else (none)))) else (none)) else (none)) else (none)) else (none)
theorem turn_day_before.mono : ∀ a0 a1 a2 a3 k, LeO (turn_day_before.f k a0 a1 a2 a3) (turn_day_before.f (k + 1) a0 a1 a2 a3) := by
 intro a0 a1 a2 a3 k
 unfold turn_day_before.f
 repeat' first
   | (with_reducible exact cmp_Or_int.mono _ _)
   | (with_reducible exact turn_day_nth.mono _ _ _ _)
   | (with_reducible exact LeO.refl _)
   | (with_reducible exact LeO.none _)
   | (with_reducible refine LeO.ite ?_ ?_)
   | (with_reducible refine LeO.bind ?_ (fun _ => ?_))
   | exact cmp_Or_int.mono _ _
   | exact turn_day_nth.mono _ _ _ _
   | exact LeO.none _
   | refine LeO.ite ?_ ?_
   | refine LeO.bind ?_ (fun _ => ?_)
def turn_day_before.T1 : Bool × List (List Nat × List Nat) := (true, [([], []), ([0], [0]), ([1], [1]), ([], []), ([2, 3], [2, 3]), ([4], [4]), ([], []), ([6], [6]), ([7], [7]), ([], []), ([8, 9], [8, 9]), ([10], [10]), ([], []), ([], []), ([12, 5, 0, 1, 2, 3, 4, 5, 12, 13], [5, 12]), ([13, 11, 14, 0, 1, 2, 3, 4, 5, 6, 7, 8, 9, 10, 11, 12, 13, 14], [11, 13])])
def turn_day_before.B1 : List Nat := [0, 1, 3, 0, 15, 31, 0, 64, 192, 0, 960, 1984, 0, 0, 12351, 32767]
theorem turn_day_before.tab1 : rtab .any (opsOf Tryz.f80 1) = turn_day_before.T1 := by kernel_rfl
theorem turn_day_before.bits1 : waitsOk turn_day_before.T1.2 turn_day_before.B1 = true := by kernel_rfl
def turn_day_before.T2 : Bool × List (List Nat × List Nat) := (true, [([], []), ([0], [0]), ([], []), ([2], [2]), ([1, 3], [1, 3]), ([], []), ([], []), ([5, 6], [5, 6]), ([], []), ([], []), ([8, 9, 7], [8, 9]), ([7, 10], [7, 10]), ([], []), ([12], [12]), ([13], [13]), ([], []), ([15], [15]), ([14, 16], [14, 16]), ([17], [17]), ([], []), ([19], [19]), ([20], [20]), ([], []), ([22], [22]), ([21, 23], [21, 23]), ([24], [24]), ([18, 25], [18, 25]), ([], []), ([], []), ([27, 28], [27, 28]), ([4, 11, 26, 29], [4, 11, 26, 29]), ([30, 10], [30]), ([31, 31, 0, 1, 2, 3, 4, 5, 6, 7, 8, 9, 10, 11, 12, 13, 14, 15, 16, 17, 18, 19, 20, 21, 22, 23, 24, 25, 26, 27, 28, 29, 30, 31], [31])])
def turn_day_before.B2 : List Nat := [0, 1, 0, 4, 15, 0, 0, 96, 0, 0, 992, 2016, 0, 4096, 12288, 0, 32768, 126976, 258048, 0, 524288, 1572864, 0, 4194304, 16252928, 33030144, 67104768, 0, 0, 402653184, 1073741823, 2147483647, 4294967295]
theorem turn_day_before.tab2 : rtab .any (opsOf Tryz.f80 2) = turn_day_before.T2 := by kernel_rfl
theorem turn_day_before.bits2 : waitsOk turn_day_before.T2.2 turn_day_before.B2 = true := by kernel_rfl
set_option maxHeartbeats 8000000 in
set_option maxRecDepth 100000 in
theorem turn_day_before.calls (k : Nat) (A0_0 : Option Addr) (c0_0 : Nat) (l0_0 : List (S67)) (A0_1 : Option Addr) (c0_1 : Nat) (l0_1 : List Int) (a1 : Int) (a2 : Int) (r : Int) (w : World) (hr0_0 : Kd.C k67 w A0_0 l0_0.length l0_0) (hc0_0 : l0_0.length ≤ c0_0) (hr0_1 : Kd.C (Kd.int .i64) w A0_1 l0_1.length l0_1) (hc0_1 : l0_1.length ≤ c0_1) (h : turn_day_before.f k l0_0 l0_1 a1 a2 = some r) :
  Calls Tryz.prog 80 #[.agg #[.slice A0_0 l0_0.length c0_0, .slice A0_1 l0_1.length c0_1], .int .i64 a1, .int .i64 a2] w fun e w' => e = .returned (.int .i64 r) ∧ Below w.heap.size w w' := by
 have hu99 := Tryz.underlying99
 have hu67 := Tryz.underlying67
 have HR0_0 := Aside0.mk hr0_0
 have HC0_0 := Aside0.mk hc0_0
 clear hr0_0 hc0_0
 have HR0_1 := Aside0.mk hr0_1
 have HC0_1 := Aside0.mk hc0_1
 clear hr0_1 hc0_1
 have HB := Aside0.mk (Below.refl w.heap.size w)
 have H : (if 0 ≤ a1 then (if a1 < (l0_0.length : Int) then (if 0 ≤ a2 then (if a2 < (l0_0.length : Int) then ((turn_day_nth.f k l0_0 l0_1 a1).bind fun t106 => ((turn_day_nth.f k l0_0 l0_1 a2).bind fun t107 => (if 0 ≤ ((rd_T67 l0_0 a1).f0) then (if ((rd_T67 l0_0 a1).f0) < (l0_1.length : Int) then (if 0 ≤ ((rd_T67 l0_0 a2).f0) then (if ((rd_T67 l0_0 a2).f0) < (l0_1.length : Int) then ((cmp_Or_int.f k (([wrap64 (((rd_T67 l0_0 a1).f1) - ((rd_T67 l0_0 a2).f1)), wrap64 (t106 - t107), wrap64 ((rd l0_1 ((rd_T67 l0_0 a1).f0)) - (rd l0_1 ((rd_T67 l0_0 a2).f0))), wrap64 (a1 - a2)] : List Int))).bind fun t113 => (some t113)) else (none)) else (none)) else (none)) else (none)))) else (none)) else (none)) else (none)) else (none)) = some r := h
 clear h
 by_cases c4 : 0 ≤ a1
 ·rw [if_pos c4] at H
  have c4b0 : decide (0 ≤ a1) = true := decide_eq_true c4
  clear c4
  by_cases c5 : a1 < (l0_0.length : Int)
  ·rw [if_pos c5] at H
   have c5b0 : decide (a1 < (l0_0.length : Int)) = true := decide_eq_true c5
   clear c5
   by_cases c6 : 0 ≤ a2
   ·rw [if_pos c6] at H
    have c6b0 : decide (0 ≤ a2) = true := decide_eq_true c6
    clear c6
    by_cases c7 : a2 < (l0_0.length : Int)
    ·rw [if_pos c7] at H
     have c7b0 : decide (a2 < (l0_0.length : Int)) = true := decide_eq_true c7
     clear c7
     obtain ⟨t106, A8, H⟩ := bi H
     obtain ⟨t107, A9, H⟩ := bi H
     by_cases c10 : 0 ≤ ((rd_T67 l0_0 a1).f0)
     ·rw [if_pos c10] at H
      have c10b0 : decide (0 ≤ ((rd_T67 l0_0 a1).f0)) = true := decide_eq_true c10
      clear c10
      by_cases c11 : ((rd_T67 l0_0 a1).f0) < (l0_1.length : Int)
      ·rw [if_pos c11] at H
       have c11b0 : decide (((rd_T67 l0_0 a1).f0) < (l0_1.length : Int)) = true := decide_eq_true c11
       clear c11
       by_cases c12 : 0 ≤ ((rd_T67 l0_0 a2).f0)
       ·rw [if_pos c12] at H
        have c12b0 : decide (0 ≤ ((rd_T67 l0_0 a2).f0)) = true := decide_eq_true c12
        clear c12
        by_cases c13 : ((rd_T67 l0_0 a2).f0) < (l0_1.length : Int)
        ·rw [if_pos c13] at H
         have c13b0 : decide (((rd_T67 l0_0 a2).f0) < (l0_1.length : Int)) = true := decide_eq_true c13
         clear c13
         obtain ⟨y110, hy110⟩ : ∃ y_ : List Int, y_ = (([wrap64 (((rd_T67 l0_0 a1).f1) - ((rd_T67 l0_0 a2).f1)), wrap64 (t106 - t107), wrap64 ((rd l0_1 ((rd_T67 l0_0 a1).f0)) - (rd l0_1 ((rd_T67 l0_0 a2).f0))), wrap64 (a1 - a2)] : List Int)) := ⟨_, rfl⟩
         replace H : Option.bind (cmp_Or_int.f k y110) _ = some r := yy hy110 H
         have Ny110 := Aside0.mk hy110
         clear hy110
         obtain ⟨t113, A14, H⟩ := bi H
         obtain rfl := Option.some.inj H
         go_enter Tryz.func80, Tryz.ntmps80
         try go_wp2_with (first | ((with_reducible refine gate_dst (N := 3) rfl ?_); refine bx 3 #[.slice A0_0 l0_0.length c0_0, .slice A0_1 l0_1.length c0_1] 99 ?_; intro gb101 hg w15 hbox hb; have BK101 := hbox; have GW101 := gs HB hg; have GE101 := gs HB hg; replace HB := bs HB hb; clear hb hbox hg))
         replace BK101 := Aside0.mk (blk_drew BK101.out)
         replace HB := Aside0.mk (below_drew1 HB.out)
         have p102 : 0 ≤ (a1 : Int) := dT
         have q102 : a1 < (l0_0.length : Int) := dT
         obtain ⟨ad102, e102, hx102_0, hx102_1, hx102_2, hx102_3⟩ := at_T67 HR0_0.out a1 p102 q102
         have hw102_3 := hx102_3
         have hw102_2 := hx102_2
         have hw102_1 := hx102_1
         have hw102_0 := hx102_0
         cases e102
         replace hx102_0 := cut_ HB hx102_0
         replace hx102_1 := cut_ HB hx102_1
         replace hx102_2 := cut_ HB hx102_2
         replace hx102_3 := cut_ HB hx102_3
         replace p102 := eq_true p102
         replace q102 := eq_true q102
         have p103 : 0 ≤ (a2 : Int) := dT
         have q103 : a2 < (l0_0.length : Int) := dT
         obtain ⟨ad103, e103, hx103_0, hx103_1, hx103_2, hx103_3⟩ := at_T67 HR0_0.out a2 p103 q103
         have hw103_3 := hx103_3
         have hw103_2 := hx103_2
         have hw103_1 := hx103_1
         have hw103_0 := hx103_0
         obtain rfl : ad102 = ad103 := (by injection e103)
         replace hx103_0 := cut_ HB hx103_0
         replace hx103_1 := cut_ HB hx103_1
         replace hx103_2 := cut_ HB hx103_2
         replace hx103_3 := cut_ HB hx103_3
         replace p103 := eq_true p103
         replace q103 := eq_true q103
         refine start_ (n := 16) (S := fun w' => w'.cell? ⟨gb101, 0, none⟩ = some (.slice (some ad102) l0_0.length c0_0) ∧ w'.cell? ⟨gb101, 1, none⟩ = some (.slice A0_1 l0_1.length c0_1) ∧ w'.cell? (ad102.add ((a1).toNat * 4)) = some (.int .i64 ((rd_T67 l0_0 a1).f0)) ∧ w'.cell? ⟨(ad102.add ((a1).toNat * 4)).block, (ad102.add ((a1).toNat * 4)).off + 1, none⟩ = some (.int .i64 ((rd_T67 l0_0 a1).f1)) ∧ w'.cell? ⟨(ad102.add ((a1).toNat * 4)).block, (ad102.add ((a1).toNat * 4)).off + 2, none⟩ = some (.int .i64 ((rd_T67 l0_0 a1).f2.f0)) ∧ w'.cell? ⟨(ad102.add ((a1).toNat * 4)).block, (ad102.add ((a1).toNat * 4)).off + 3, none⟩ = some (.int .i64 ((rd_T67 l0_0 a1).f2.f1)) ∧ w'.cell? (ad102.add ((a2).toNat * 4)) = some (.int .i64 ((rd_T67 l0_0 a2).f0)) ∧ w'.cell? ⟨(ad102.add ((a2).toNat * 4)).block, (ad102.add ((a2).toNat * 4)).off + 1, none⟩ = some (.int .i64 ((rd_T67 l0_0 a2).f1)) ∧ w'.cell? ⟨(ad102.add ((a2).toNat * 4)).block, (ad102.add ((a2).toNat * 4)).off + 2, none⟩ = some (.int .i64 ((rd_T67 l0_0 a2).f2.f0)) ∧ w'.cell? ⟨(ad102.add ((a2).toNat * 4)).block, (ad102.add ((a2).toNat * 4)).off + 3, none⟩ = some (.int .i64 ((rd_T67 l0_0 a2).f2.f1))) (ds := []) #[false, false, false, false, false, false, false, false, false, false, false, false, false, false, false, false] (by kernel_rfl) rfl rfl ⟨(blk_cell BK101.out 0).trans rfl, (blk_cell BK101.out 1).trans rfl, (cB HB hw102_0), (cB HB hw102_1), (cB HB hw102_2), (cB HB hw102_3), (cB HB hw103_0), (cB HB hw103_1), (cB HB hw103_2), (cB HB hw103_3)⟩ (fun hHeld => ?_); refine with_tabW turn_day_before.tab1 turn_day_before.bits1 (fun HT_ HW_ => ?_)
         generalize w15.drew = w16 at BK101 HB hx102_0 hx102_1 hx102_2 hx102_3 hx103_0 hx103_1 hx103_2 hx103_3 hHeld ⊢
         refine pu 0 9 ?_
         refine pu 1 10 ?_
         refine pu 3 12 ?_
         refine pu 6 15 ?_
         refine pu 7 16 ?_
         refine pu 9 18 ?_
         refine tk 2 11 hHeld ?_
         refine pu 4 13 ?_
         refine tk 5 14 hHeld ?_
         refine tk 8 17 hHeld ?_
         refine pu 10 19 ?_
         refine tk 11 20 hHeld ?_
         refine join_ (σ := Nat × Nat) 2 #[true, true, true, true, true, true, true, true, true, true, true, true, true, true, false, false] (fun s_ => [(7, .pointer (some ⟨s_.1, 0, none⟩)), (8, .pointer (some ⟨s_.2, 0, none⟩))]) (fun s_ w' => (w'.cell? ⟨gb101, 0, none⟩ = some (.slice (some ad102) l0_0.length c0_0) ∧ w'.cell? ⟨gb101, 1, none⟩ = some (.slice A0_1 l0_1.length c0_1) ∧ w'.cell? (ad102.add ((a1).toNat * 4)) = some (.int .i64 ((rd_T67 l0_0 a1).f0)) ∧ w'.cell? ⟨(ad102.add ((a1).toNat * 4)).block, (ad102.add ((a1).toNat * 4)).off + 1, none⟩ = some (.int .i64 ((rd_T67 l0_0 a1).f1)) ∧ w'.cell? ⟨(ad102.add ((a1).toNat * 4)).block, (ad102.add ((a1).toNat * 4)).off + 2, none⟩ = some (.int .i64 ((rd_T67 l0_0 a1).f2.f0)) ∧ w'.cell? ⟨(ad102.add ((a1).toNat * 4)).block, (ad102.add ((a1).toNat * 4)).off + 3, none⟩ = some (.int .i64 ((rd_T67 l0_0 a1).f2.f1)) ∧ w'.cell? (ad102.add ((a2).toNat * 4)) = some (.int .i64 ((rd_T67 l0_0 a2).f0)) ∧ w'.cell? ⟨(ad102.add ((a2).toNat * 4)).block, (ad102.add ((a2).toNat * 4)).off + 1, none⟩ = some (.int .i64 ((rd_T67 l0_0 a2).f1)) ∧ w'.cell? ⟨(ad102.add ((a2).toNat * 4)).block, (ad102.add ((a2).toNat * 4)).off + 2, none⟩ = some (.int .i64 ((rd_T67 l0_0 a2).f2.f0)) ∧ w'.cell? ⟨(ad102.add ((a2).toNat * 4)).block, (ad102.add ((a2).toNat * 4)).off + 3, none⟩ = some (.int .i64 ((rd_T67 l0_0 a2).f2.f1))) ∧ (w'.heap[gb101]? = some (.cells #[.slice (some ad102) l0_0.length c0_0, .slice A0_1 l0_1.length c0_1] 99 (0, 0))) ∧ (w'.heap[s_.1]? = some (.cells #[.int .i64 0, .int .i64 0, .int .i64 0, .int .i64 0] 67 (0, 0))) ∧ (w'.heap[s_.2]? = some (.cells #[.int .i64 0, .int .i64 0, .int .i64 0, .int .i64 0] 67 (0, 0))) ∧ (w.heap.size ≤ s_.1) ∧ (w.heap.size ≤ s_.1) ∧ (gb101 ≠ s_.1) ∧ (s_.1 ≠ gb101) ∧ (s_.2 ≠ s_.1) ∧ (s_.1 ≠ s_.2) ∧ (w.heap.size ≤ s_.2) ∧ (w.heap.size ≤ s_.2) ∧ (gb101 ≠ s_.2) ∧ (s_.2 ≠ gb101) ∧ (Below w.heap.size w w')) ?_ ?_
         rotate_left
         ·intro hCont
          refine two_ (i := 12) (j := 13) (Ni := some 7) (Nj := some 8) #[true, true, true, true, true, true, true, true, true, true, true, true, true, false, false, false] #[true, true, true, true, true, true, true, true, true, true, true, true, false, true, false, false] rfl rfl rfl rfl (two_of HT_.out (by kernel_rfl)) (by decide) (by decide) (fun K hK => ?_) (fun K hK => ?_)
          ·skip
           refine box_step ?hg (N := 7) ?hd (cs := #[.int .i64 0, .int .i64 0, .int .i64 0, .int .i64 0]) (t := 67) ?hr ?_; (case hd => rfl); (case hg => rfl); (case hr => first | (go_simp; done) | (go_simp; rfl))
           intro gb104 hg w17 hbox hb
           have BK104 := Aside0.mk (hbox)
           have GW104 := gs HB hg
           have GE104 := gs HB hg
           replace HB := bs HB hb
           have NB101_104 := nl BK101 hg
           have NB104_101 := nr BK101 hg
           replace BK101 := bb BK101 hb
           clear hb hbox hg
           refine hK.out _ _ ⟨(blk_cell BK101.out 0).trans rfl, (blk_cell BK101.out 1).trans rfl, (cB HB hw102_0), (cB HB hw102_1), (cB HB hw102_2), (cB HB hw102_3), (cB HB hw103_0), (cB HB hw103_1), (cB HB hw103_2), (cB HB hw103_3)⟩ (fun hHeld => ?_)
           clear hK K
           refine norm_ (a' := ?_) ?_ ?_
           rotate_left
           ·show Act.put _ (some 7) _ = _
            simp only [Act.put, List.setIfInBounds_toArray, List.set_cons_zero, List.set_cons_succ, i64_w, i32_w]
            rfl
           refine on 13 (fun K hK => ?_)
           refine box_step ?hg (N := 8) ?hd (cs := #[.int .i64 0, .int .i64 0, .int .i64 0, .int .i64 0]) (t := 67) ?hr ?_; (case hd => rfl); (case hg => rfl); (case hr => first | (go_simp; done) | (go_simp; rfl))
           intro gb105 hg w18 hbox hb
           have BK105 := Aside0.mk (hbox)
           have GW105 := gs HB hg
           have GE105 := gs HB hg
           replace HB := bs HB hb
           have NB101_105 := nl BK101 hg
           have NB105_101 := nr BK101 hg
           replace BK101 := bb BK101 hb
           have NB104_105 := nl BK104 hg
           have NB105_104 := nr BK104 hg
           replace BK104 := bb BK104 hb
           clear hb hbox hg
           refine hK.out _ _ ⟨(blk_cell BK101.out 0).trans rfl, (blk_cell BK101.out 1).trans rfl, (cB HB hw102_0), (cB HB hw102_1), (cB HB hw102_2), (cB HB hw102_3), (cB HB hw103_0), (cB HB hw103_1), (cB HB hw103_2), (cB HB hw103_3)⟩ (fun hHeld => ?_)
           clear hK K
           refine norm_ (a' := ?_) ?_ ?_
           rotate_left
           ·show Act.put _ (some 8) _ = _
            simp only [Act.put, List.setIfInBounds_toArray, List.set_cons_zero, List.set_cons_succ, i64_w, i32_w]
            rfl
           exact norm_ (by simp only [putAll, Act.put, List.setIfInBounds_toArray, List.set_cons_zero, List.set_cons_succ]) (hCont (gb104, gb105) _ ⟨hHeld, (pB BK101.out), (pB BK104.out), (pB BK105.out), GW104.out, GE104.out, NB101_104.out, NB104_101.out, NB105_104.out, NB104_105.out, GW105.out, GE105.out, NB101_105.out, NB105_101.out, (pE HB)⟩)
          ·skip
           refine box_step ?hg (N := 8) ?hd (cs := #[.int .i64 0, .int .i64 0, .int .i64 0, .int .i64 0]) (t := 67) ?hr ?_; (case hd => rfl); (case hg => rfl); (case hr => first | (go_simp; done) | (go_simp; rfl))
           intro gb105 hg w17 hbox hb
           have BK105 := Aside0.mk (hbox)
           have GW105 := gs HB hg
           have GE105 := gs HB hg
           replace HB := bs HB hb
           have NB101_105 := nl BK101 hg
           have NB105_101 := nr BK101 hg
           replace BK101 := bb BK101 hb
           clear hb hbox hg
           refine hK.out _ _ ⟨(blk_cell BK101.out 0).trans rfl, (blk_cell BK101.out 1).trans rfl, (cB HB hw102_0), (cB HB hw102_1), (cB HB hw102_2), (cB HB hw102_3), (cB HB hw103_0), (cB HB hw103_1), (cB HB hw103_2), (cB HB hw103_3)⟩ (fun hHeld => ?_)
           clear hK K
           refine norm_ (a' := ?_) ?_ ?_
           rotate_left
           ·show Act.put _ (some 8) _ = _
            simp only [Act.put, List.setIfInBounds_toArray, List.set_cons_zero, List.set_cons_succ, i64_w, i32_w]
            rfl
           refine on 12 (fun K hK => ?_)
           refine box_step ?hg (N := 7) ?hd (cs := #[.int .i64 0, .int .i64 0, .int .i64 0, .int .i64 0]) (t := 67) ?hr ?_; (case hd => rfl); (case hg => rfl); (case hr => first | (go_simp; done) | (go_simp; rfl))
           intro gb104 hg w18 hbox hb
           have BK104 := Aside0.mk (hbox)
           have GW104 := gs HB hg
           have GE104 := gs HB hg
           replace HB := bs HB hb
           have NB101_104 := nl BK101 hg
           have NB104_101 := nr BK101 hg
           replace BK101 := bb BK101 hb
           have NB105_104 := nl BK105 hg
           have NB104_105 := nr BK105 hg
           replace BK105 := bb BK105 hb
           clear hb hbox hg
           refine hK.out _ _ ⟨(blk_cell BK101.out 0).trans rfl, (blk_cell BK101.out 1).trans rfl, (cB HB hw102_0), (cB HB hw102_1), (cB HB hw102_2), (cB HB hw102_3), (cB HB hw103_0), (cB HB hw103_1), (cB HB hw103_2), (cB HB hw103_3)⟩ (fun hHeld => ?_)
           clear hK K
           refine norm_ (a' := ?_) ?_ ?_
           rotate_left
           ·show Act.put _ (some 7) _ = _
            simp only [Act.put, List.setIfInBounds_toArray, List.set_cons_zero, List.set_cons_succ, i64_w, i32_w]
            rfl
           exact norm_ (by simp only [putAll, Act.put, List.setIfInBounds_toArray, List.set_cons_zero, List.set_cons_succ]) (hCont (gb104, gb105) _ ⟨hHeld, (pB BK101.out), (pB BK104.out), (pB BK105.out), GW104.out, GE104.out, NB101_104.out, NB104_101.out, NB105_104.out, NB104_105.out, GW105.out, GE105.out, NB101_105.out, NB105_101.out, (pE HB)⟩)
         rintro ⟨gb104, gb105⟩ w19 ⟨hS_, h0_, h1_, h2_, h3_, h4_, h5_, h6_, h7_, h8_, h9_, h10_, h11_, h12_, h13_⟩
         have n0_ : Aside0 (w19.heap[gb101]? = some (.cells #[.slice (some ad102) l0_0.length c0_0, .slice A0_1 l0_1.length c0_1] 99 (0, 0))) := ⟨h0_⟩
         have n1_ : Aside0 (w19.heap[gb104]? = some (.cells #[.int .i64 0, .int .i64 0, .int .i64 0, .int .i64 0] 67 (0, 0))) := ⟨h1_⟩
         have n2_ : Aside0 (w19.heap[gb105]? = some (.cells #[.int .i64 0, .int .i64 0, .int .i64 0, .int .i64 0] 67 (0, 0))) := ⟨h2_⟩
         have n3_ : Aside0 (w.heap.size ≤ gb104) := ⟨h3_⟩
         have n4_ : Aside0 (w.heap.size ≤ gb104) := ⟨h4_⟩
         have n5_ : Aside0 (gb101 ≠ gb104) := ⟨h5_⟩
         have n6_ : Aside0 (gb104 ≠ gb101) := ⟨h6_⟩
         have n7_ : Aside0 (gb105 ≠ gb104) := ⟨h7_⟩
         have n8_ : Aside0 (gb104 ≠ gb105) := ⟨h8_⟩
         have n9_ : Aside0 (w.heap.size ≤ gb105) := ⟨h9_⟩
         have n10_ : Aside0 (w.heap.size ≤ gb105) := ⟨h10_⟩
         have n11_ : Aside0 (gb101 ≠ gb105) := ⟨h11_⟩
         have n12_ : Aside0 (gb105 ≠ gb101) := ⟨h12_⟩
         have n13_ : Aside0 (Below w.heap.size w w19) := ⟨h13_⟩
         clear BK101 HB h0_ h1_ h2_ h3_ h4_ h5_ h6_ h7_ h8_ h9_ h10_ h11_ h12_ h13_
         have BK101 := n0_
         have BK104 := n1_
         have BK105 := n2_
         have GW104 := n3_
         have GE104 := n4_
         have NB101_104 := n5_
         have NB104_101 := n6_
         have NB105_104 := n7_
         have NB104_105 := n8_
         have GW105 := n9_
         have GE105 := n10_
         have NB101_105 := n11_
         have NB105_101 := n12_
         have HB := n13_
         clear n0_ n1_ n2_ n3_ n4_ n5_ n6_ n7_ n8_ n9_ n10_ n11_ n12_ n13_
         have hHeld : w19.cell? ⟨gb101, 0, none⟩ = some (.slice (some ad102) l0_0.length c0_0) ∧ w19.cell? ⟨gb101, 1, none⟩ = some (.slice A0_1 l0_1.length c0_1) ∧ w19.cell? (ad102.add ((a1).toNat * 4)) = some (.int .i64 ((rd_T67 l0_0 a1).f0)) ∧ w19.cell? ⟨(ad102.add ((a1).toNat * 4)).block, (ad102.add ((a1).toNat * 4)).off + 1, none⟩ = some (.int .i64 ((rd_T67 l0_0 a1).f1)) ∧ w19.cell? ⟨(ad102.add ((a1).toNat * 4)).block, (ad102.add ((a1).toNat * 4)).off + 2, none⟩ = some (.int .i64 ((rd_T67 l0_0 a1).f2.f0)) ∧ w19.cell? ⟨(ad102.add ((a1).toNat * 4)).block, (ad102.add ((a1).toNat * 4)).off + 3, none⟩ = some (.int .i64 ((rd_T67 l0_0 a1).f2.f1)) ∧ w19.cell? (ad102.add ((a2).toNat * 4)) = some (.int .i64 ((rd_T67 l0_0 a2).f0)) ∧ w19.cell? ⟨(ad102.add ((a2).toNat * 4)).block, (ad102.add ((a2).toNat * 4)).off + 1, none⟩ = some (.int .i64 ((rd_T67 l0_0 a2).f1)) ∧ w19.cell? ⟨(ad102.add ((a2).toNat * 4)).block, (ad102.add ((a2).toNat * 4)).off + 2, none⟩ = some (.int .i64 ((rd_T67 l0_0 a2).f2.f0)) ∧ w19.cell? ⟨(ad102.add ((a2).toNat * 4)).block, (ad102.add ((a2).toNat * 4)).off + 3, none⟩ = some (.int .i64 ((rd_T67 l0_0 a2).f2.f1)) := hS_
         refine norm_ (a' := ?_) ?_ ?_
         rotate_left
         ·simp only [putAll, Act.put, List.setIfInBounds_toArray, List.set_cons_zero, List.set_cons_succ]
          rfl
         refine on 14 (fun K hK => ?_)
         have hs20 : w19.cell? ⟨gb104, 0, none⟩ = some (.int .i64 0) := (blk_cell BK104.out 0).trans rfl
         have hfs20 := blk_frozen BK104.out 0
         have hns20_0 := NB101_104.out
         have hns20_2 := NB105_104.out
         have hms20_0 := NB104_101.out
         have hms20_2 := NB104_105.out
         have hs21 : w19.cell? ⟨gb104, 1, none⟩ = some (.int .i64 0) := (blk_cell BK104.out 1).trans rfl
         have hfs21 := blk_frozen BK104.out 1
         have hns21_0 := NB101_104.out
         have hns21_2 := NB105_104.out
         have hms21_0 := NB104_101.out
         have hms21_2 := NB104_105.out
         have hs22 : w19.cell? ⟨gb104, 2, none⟩ = some (.int .i64 0) := (blk_cell BK104.out 2).trans rfl
         have hfs22 := blk_frozen BK104.out 2
         have hns22_0 := NB101_104.out
         have hns22_2 := NB105_104.out
         have hms22_0 := NB104_101.out
         have hms22_2 := NB104_105.out
         have hs23 : w19.cell? ⟨gb104, 3, none⟩ = some (.int .i64 0) := (blk_cell BK104.out 3).trans rfl
         have hfs23 := blk_frozen BK104.out 3
         have hns23_0 := NB101_104.out
         have hns23_2 := NB105_104.out
         have hms23_0 := NB104_101.out
         have hms23_2 := NB104_105.out
         refine skip_ (w1 := ?_) (by rfl) rfl ?_ ?_
         rotate_left
         ·go_simp
          rfl
         refine hK.out _ _ ⟨(cq NB101_104.out hHeld.1), (cq NB101_104.out hHeld.2.1), (cq (nF hw102_0 GW104) hHeld.2.2.1), (cq (nF hw102_1 GW104) hHeld.2.2.2.1), (cq (nF hw102_2 GW104) hHeld.2.2.2.2.1), (cq (nF hw102_3 GW104) hHeld.2.2.2.2.2.1), (cq (nF hw103_0 GW104) hHeld.2.2.2.2.2.2.1), (cq (nF hw103_1 GW104) hHeld.2.2.2.2.2.2.2.1), (cq (nF hw103_2 GW104) hHeld.2.2.2.2.2.2.2.2.1), (cq (nF hw103_3 GW104) hHeld.2.2.2.2.2.2.2.2.2)⟩ (fun hHeld => ?_)
         clear hK K
         refine on 15 (fun K hK => ?_)
         have hs24 : w19.cell? ⟨gb105, 0, none⟩ = some (.int .i64 0) := (blk_cell BK105.out 0).trans rfl
         have hfs24 := blk_frozen BK105.out 0
         have hns24_0 := NB101_105.out
         have hns24_1 := NB104_105.out
         have hms24_0 := NB105_101.out
         have hms24_1 := NB105_104.out
         have hs25 : w19.cell? ⟨gb105, 1, none⟩ = some (.int .i64 0) := (blk_cell BK105.out 1).trans rfl
         have hfs25 := blk_frozen BK105.out 1
         have hns25_0 := NB101_105.out
         have hns25_1 := NB104_105.out
         have hms25_0 := NB105_101.out
         have hms25_1 := NB105_104.out
         have hs26 : w19.cell? ⟨gb105, 2, none⟩ = some (.int .i64 0) := (blk_cell BK105.out 2).trans rfl
         have hfs26 := blk_frozen BK105.out 2
         have hns26_0 := NB101_105.out
         have hns26_1 := NB104_105.out
         have hms26_0 := NB105_101.out
         have hms26_1 := NB105_104.out
         have hs27 : w19.cell? ⟨gb105, 3, none⟩ = some (.int .i64 0) := (blk_cell BK105.out 3).trans rfl
         have hfs27 := blk_frozen BK105.out 3
         have hns27_0 := NB101_105.out
         have hns27_1 := NB104_105.out
         have hms27_0 := NB105_101.out
         have hms27_1 := NB105_104.out
         refine skip_ (w1 := ?_) (by rfl) rfl ?_ ?_
         rotate_left
         ·go_simp
          rfl
         refine hK.out _ _ ⟨(cq NB101_105.out hHeld.1), (cq NB101_105.out hHeld.2.1), (cq (nF hw102_0 GW105) hHeld.2.2.1), (cq (nF hw102_1 GW105) hHeld.2.2.2.1), (cq (nF hw102_2 GW105) hHeld.2.2.2.2.1), (cq (nF hw102_3 GW105) hHeld.2.2.2.2.2.1), (cq (nF hw103_0 GW105) hHeld.2.2.2.2.2.2.1), (cq (nF hw103_1 GW105) hHeld.2.2.2.2.2.2.2.1), (cq (nF hw103_2 GW105) hHeld.2.2.2.2.2.2.2.2.1), (cq (nF hw103_3 GW105) hHeld.2.2.2.2.2.2.2.2.2)⟩ (fun hHeld => ?_)
         clear hK K
         refine done_ (done_of HT_.out (by kernel_rfl)) ?_
         try go_wp2
         have n0_ : Aside0 (((((((((w19.setCell ⟨gb104, 0, none⟩ (.int .i64 ((rd_T67 l0_0 a1).f0))).setCell ⟨gb104, 1, none⟩ (.int .i64 ((rd_T67 l0_0 a1).f1))).setCell ⟨gb104, 2, none⟩ (.int .i64 ((rd_T67 l0_0 a1).f2.f0))).setCell ⟨gb104, 3, none⟩ (.int .i64 ((rd_T67 l0_0 a1).f2.f1))).setCell ⟨gb105, 0, none⟩ (.int .i64 ((rd_T67 l0_0 a2).f0))).setCell ⟨gb105, 1, none⟩ (.int .i64 ((rd_T67 l0_0 a2).f1))).setCell ⟨gb105, 2, none⟩ (.int .i64 ((rd_T67 l0_0 a2).f2.f0))).setCell ⟨gb105, 3, none⟩ (.int .i64 ((rd_T67 l0_0 a2).f2.f1))).heap[gb101]? = some (.cells #[.slice (some ad102) l0_0.length c0_0, .slice A0_1 l0_1.length c0_1] 99 (0, 0))) := ⟨pF BK101⟩
         have n1_ : Aside0 (((((((((w19.setCell ⟨gb104, 0, none⟩ (.int .i64 ((rd_T67 l0_0 a1).f0))).setCell ⟨gb104, 1, none⟩ (.int .i64 ((rd_T67 l0_0 a1).f1))).setCell ⟨gb104, 2, none⟩ (.int .i64 ((rd_T67 l0_0 a1).f2.f0))).setCell ⟨gb104, 3, none⟩ (.int .i64 ((rd_T67 l0_0 a1).f2.f1))).setCell ⟨gb105, 0, none⟩ (.int .i64 ((rd_T67 l0_0 a2).f0))).setCell ⟨gb105, 1, none⟩ (.int .i64 ((rd_T67 l0_0 a2).f1))).setCell ⟨gb105, 2, none⟩ (.int .i64 ((rd_T67 l0_0 a2).f2.f0))).setCell ⟨gb105, 3, none⟩ (.int .i64 ((rd_T67 l0_0 a2).f2.f1))).heap[gb104]? = some (.cells #[.int .i64 ((rd_T67 l0_0 a1).f0), .int .i64 ((rd_T67 l0_0 a1).f1), .int .i64 ((rd_T67 l0_0 a1).f2.f0), .int .i64 ((rd_T67 l0_0 a1).f2.f1)] 67 (0, 0))) := ⟨by refine pB ?_; refine blk_far ?_ NB104_105.out _; refine pB ?_; refine blk_far ?_ NB104_105.out _; refine pB ?_; refine blk_far ?_ NB104_105.out _; refine pB ?_; refine blk_far ?_ NB104_105.out _; refine pB ?_; refine blk_put (cs := #[.int .i64 ((rd_T67 l0_0 a1).f0), .int .i64 ((rd_T67 l0_0 a1).f1), .int .i64 ((rd_T67 l0_0 a1).f2.f0), .int .i64 0]) ?_ 3 _ rfl; refine pB ?_; refine blk_put (cs := #[.int .i64 ((rd_T67 l0_0 a1).f0), .int .i64 ((rd_T67 l0_0 a1).f1), .int .i64 0, .int .i64 0]) ?_ 2 _ rfl; refine pB ?_; refine blk_put (cs := #[.int .i64 ((rd_T67 l0_0 a1).f0), .int .i64 0, .int .i64 0, .int .i64 0]) ?_ 1 _ rfl; refine pB ?_; refine blk_put (cs := #[.int .i64 0, .int .i64 0, .int .i64 0, .int .i64 0]) ?_ 0 _ rfl; exact pB BK104.out⟩
         have n2_ : Aside0 (((((((((w19.setCell ⟨gb104, 0, none⟩ (.int .i64 ((rd_T67 l0_0 a1).f0))).setCell ⟨gb104, 1, none⟩ (.int .i64 ((rd_T67 l0_0 a1).f1))).setCell ⟨gb104, 2, none⟩ (.int .i64 ((rd_T67 l0_0 a1).f2.f0))).setCell ⟨gb104, 3, none⟩ (.int .i64 ((rd_T67 l0_0 a1).f2.f1))).setCell ⟨gb105, 0, none⟩ (.int .i64 ((rd_T67 l0_0 a2).f0))).setCell ⟨gb105, 1, none⟩ (.int .i64 ((rd_T67 l0_0 a2).f1))).setCell ⟨gb105, 2, none⟩ (.int .i64 ((rd_T67 l0_0 a2).f2.f0))).setCell ⟨gb105, 3, none⟩ (.int .i64 ((rd_T67 l0_0 a2).f2.f1))).heap[gb105]? = some (.cells #[.int .i64 ((rd_T67 l0_0 a2).f0), .int .i64 ((rd_T67 l0_0 a2).f1), .int .i64 ((rd_T67 l0_0 a2).f2.f0), .int .i64 ((rd_T67 l0_0 a2).f2.f1)] 67 (0, 0))) := ⟨by refine pB ?_; refine blk_put (cs := #[.int .i64 ((rd_T67 l0_0 a2).f0), .int .i64 ((rd_T67 l0_0 a2).f1), .int .i64 ((rd_T67 l0_0 a2).f2.f0), .int .i64 0]) ?_ 3 _ rfl; refine pB ?_; refine blk_put (cs := #[.int .i64 ((rd_T67 l0_0 a2).f0), .int .i64 ((rd_T67 l0_0 a2).f1), .int .i64 0, .int .i64 0]) ?_ 2 _ rfl; refine pB ?_; refine blk_put (cs := #[.int .i64 ((rd_T67 l0_0 a2).f0), .int .i64 0, .int .i64 0, .int .i64 0]) ?_ 1 _ rfl; refine pB ?_; refine blk_put (cs := #[.int .i64 0, .int .i64 0, .int .i64 0, .int .i64 0]) ?_ 0 _ rfl; refine pB ?_; refine blk_far ?_ NB105_104.out _; refine pB ?_; refine blk_far ?_ NB105_104.out _; refine pB ?_; refine blk_far ?_ NB105_104.out _; refine pB ?_; refine blk_far ?_ NB105_104.out _; exact pB BK105.out⟩
         have n3_ : Aside0 (Below w.heap.size w ((((((((w19.setCell ⟨gb104, 0, none⟩ (.int .i64 ((rd_T67 l0_0 a1).f0))).setCell ⟨gb104, 1, none⟩ (.int .i64 ((rd_T67 l0_0 a1).f1))).setCell ⟨gb104, 2, none⟩ (.int .i64 ((rd_T67 l0_0 a1).f2.f0))).setCell ⟨gb104, 3, none⟩ (.int .i64 ((rd_T67 l0_0 a1).f2.f1))).setCell ⟨gb105, 0, none⟩ (.int .i64 ((rd_T67 l0_0 a2).f0))).setCell ⟨gb105, 1, none⟩ (.int .i64 ((rd_T67 l0_0 a2).f1))).setCell ⟨gb105, 2, none⟩ (.int .i64 ((rd_T67 l0_0 a2).f2.f0))).setCell ⟨gb105, 3, none⟩ (.int .i64 ((rd_T67 l0_0 a2).f2.f1)))) := ⟨pE HB⟩
         (try clear BK101)
         (try clear BK104)
         (try clear BK105)
         (try clear HB)
         generalize ((((((((w19.setCell ⟨gb104, 0, none⟩ (.int .i64 ((rd_T67 l0_0 a1).f0))).setCell ⟨gb104, 1, none⟩ (.int .i64 ((rd_T67 l0_0 a1).f1))).setCell ⟨gb104, 2, none⟩ (.int .i64 ((rd_T67 l0_0 a1).f2.f0))).setCell ⟨gb104, 3, none⟩ (.int .i64 ((rd_T67 l0_0 a1).f2.f1))).setCell ⟨gb105, 0, none⟩ (.int .i64 ((rd_T67 l0_0 a2).f0))).setCell ⟨gb105, 1, none⟩ (.int .i64 ((rd_T67 l0_0 a2).f1))).setCell ⟨gb105, 2, none⟩ (.int .i64 ((rd_T67 l0_0 a2).f2.f0))).setCell ⟨gb105, 3, none⟩ (.int .i64 ((rd_T67 l0_0 a2).f2.f1))) = w28 at n0_ n1_ n2_ n3_ ⊢
         have BK101 := n0_
         have BK104 := n1_
         have BK105 := n2_
         have HB := n3_
         clear n0_ n1_ n2_ n3_
         replace BK101 := Aside0.mk (blk_drew BK101.out)
         replace BK104 := Aside0.mk (blk_drew BK104.out)
         replace BK105 := Aside0.mk (blk_drew BK105.out)
         replace HB := Aside0.mk (below_drew1 HB.out)
         have p108 : 0 ≤ (((rd_T67 l0_0 a1).f0) : Int) := dT
         have q108 : ((rd_T67 l0_0 a1).f0) < (l0_1.length : Int) := dT
         obtain ⟨ad108, e108, hx108_0⟩ := Kd.at_int HR0_1.out ((rd_T67 l0_0 a1).f0) p108 q108
         have hw108_0 := hx108_0
         cases e108
         replace hx108_0 := cut_ HB hx108_0
         replace p108 := eq_true p108
         replace q108 := eq_true q108
         have p109 : 0 ≤ (((rd_T67 l0_0 a2).f0) : Int) := dT
         have q109 : ((rd_T67 l0_0 a2).f0) < (l0_1.length : Int) := dT
         obtain ⟨ad109, e109, hx109_0⟩ := Kd.at_int HR0_1.out ((rd_T67 l0_0 a2).f0) p109 q109
         have hw109_0 := hx109_0
         obtain rfl : ad108 = ad109 := (by injection e109)
         replace hx109_0 := cut_ HB hx109_0
         replace p109 := eq_true p109
         replace q109 := eq_true q109
         refine start_ (n := 33) (S := fun w' => w'.cell? ⟨gb104, 0, none⟩ = some (.int .i64 ((rd_T67 l0_0 a1).f0)) ∧ w'.cell? ⟨gb104, 1, none⟩ = some (.int .i64 ((rd_T67 l0_0 a1).f1)) ∧ w'.cell? ⟨gb104, 2, none⟩ = some (.int .i64 ((rd_T67 l0_0 a1).f2.f0)) ∧ w'.cell? ⟨gb104, 3, none⟩ = some (.int .i64 ((rd_T67 l0_0 a1).f2.f1)) ∧ w'.cell? ⟨gb105, 0, none⟩ = some (.int .i64 ((rd_T67 l0_0 a2).f0)) ∧ w'.cell? ⟨gb105, 1, none⟩ = some (.int .i64 ((rd_T67 l0_0 a2).f1)) ∧ w'.cell? ⟨gb105, 2, none⟩ = some (.int .i64 ((rd_T67 l0_0 a2).f2.f0)) ∧ w'.cell? ⟨gb105, 3, none⟩ = some (.int .i64 ((rd_T67 l0_0 a2).f2.f1)) ∧ w'.cell? ⟨gb101, 0, none⟩ = some (.slice (some ad102) l0_0.length c0_0) ∧ w'.cell? ⟨gb101, 1, none⟩ = some (.slice (some ad108) l0_1.length c0_1) ∧ w'.cell? (ad108.add (((rd_T67 l0_0 a1).f0)).toNat) = some (.int .i64 (rd l0_1 ((rd_T67 l0_0 a1).f0))) ∧ w'.cell? (ad108.add (((rd_T67 l0_0 a2).f0)).toNat) = some (.int .i64 (rd l0_1 ((rd_T67 l0_0 a2).f0)))) (ds := []) #[false, false, false, false, false, false, false, false, false, false, false, false, false, false, false, false, false, false, false, false, false, false, false, false, false, false, false, false, false, false, false, false, false] (by kernel_rfl) rfl rfl ⟨(blk_cell BK104.out 0).trans rfl, (blk_cell BK104.out 1).trans rfl, (blk_cell BK104.out 2).trans rfl, (blk_cell BK104.out 3).trans rfl, (blk_cell BK105.out 0).trans rfl, (blk_cell BK105.out 1).trans rfl, (blk_cell BK105.out 2).trans rfl, (blk_cell BK105.out 3).trans rfl, (blk_cell BK101.out 0).trans rfl, (blk_cell BK101.out 1).trans rfl, (cB HB hw108_0), (cB HB hw109_0)⟩ (fun hHeld => ?_); refine with_tabW turn_day_before.tab2 turn_day_before.bits2 (fun HT_ HW_ => ?_)
         generalize w28.drew = w29 at BK101 BK104 BK105 HB hx108_0 hx109_0 hHeld ⊢
         refine pu 0 21 ?_
         refine pu 2 23 ?_
         refine pu 6 27 ?_
         refine pu 9 30 ?_
         refine pu 12 33 ?_
         refine pu 13 34 ?_
         refine pu 15 36 ?_
         refine pu 19 40 ?_
         refine pu 20 41 ?_
         refine pu 22 43 ?_
         refine pu 27 48 ?_
         refine pu 28 49 ?_
         refine pu 29 50 ?_
         refine tk 1 22 hHeld ?_
         refine tk 3 24 hHeld ?_
         refine pu 4 25 ?_
         refine tk 5 26 hHeld ?_
         refine tk 8 29 hHeld ?_
         refine tk 14 35 hHeld ?_
         refine tk 16 37 hHeld ?_
         refine pu 17 38 ?_
         refine tk 18 39 hHeld ?_
         refine tk 21 42 hHeld ?_
         refine tk 23 44 hHeld ?_
         refine pu 24 45 ?_
         refine tk 25 46 hHeld ?_
         refine pu 26 47 ?_
         refine on 7 (fun K hK => ?_)
         refine gO Tryz.func110 #[.agg #[.slice (some ad102) l0_0.length c0_0, .slice (some ad108) l0_1.length c0_1], .int .i64 a1] ?_
         with_reducible refine (turn_day_nth.calls k _ _ l0_0 _ _ l0_1 a1 t106 _ ?side1 ?side2 ?side3 ?side4 A8.out).mono ?_
         (case side1 => exact pC (Kd.C_below HR0_0.out HB.out))
         (case side2 => exact HC0_0.out)
         (case side3 => exact pC (Kd.C_below HR0_1.out HB.out))
         (case side4 => exact HC0_1.out)
         rintro e w30 ⟨rfl, hb⟩
         refine ⟨_, rfl, ?_⟩
         replace BK101 := bb BK101 hb
         replace BK104 := bb BK104 hb
         replace BK105 := bb BK105 hb
         replace HB := bs HB hb
         (try clear hb)
         (try clear hb2)
         (try clear hk)
         (try clear hi)
         refine hK.out _ _ ⟨(blk_cell BK104.out 0).trans rfl, (blk_cell BK104.out 1).trans rfl, (blk_cell BK104.out 2).trans rfl, (blk_cell BK104.out 3).trans rfl, (blk_cell BK105.out 0).trans rfl, (blk_cell BK105.out 1).trans rfl, (blk_cell BK105.out 2).trans rfl, (blk_cell BK105.out 3).trans rfl, (blk_cell BK101.out 0).trans rfl, (blk_cell BK101.out 1).trans rfl, (cB HB hw108_0), (cB HB hw109_0)⟩ (fun hHeld => ?_)
         clear hK K
         refine norm_ (a' := ?_) ?_ ?_
         rotate_left
         ·show Act.put _ (some 28) _ = _
          simp only [Act.put, List.setIfInBounds_toArray, List.set_cons_zero, List.set_cons_succ, i64_w, i32_w]
          rfl
         refine on 10 (fun K hK => ?_)
         refine gO Tryz.func110 #[.agg #[.slice (some ad102) l0_0.length c0_0, .slice (some ad108) l0_1.length c0_1], .int .i64 a2] ?_
         with_reducible refine (turn_day_nth.calls k _ _ l0_0 _ _ l0_1 a2 t107 _ ?side1 ?side2 ?side3 ?side4 A9.out).mono ?_
         (case side1 => exact pC (Kd.C_below HR0_0.out HB.out))
         (case side2 => exact HC0_0.out)
         (case side3 => exact pC (Kd.C_below HR0_1.out HB.out))
         (case side4 => exact HC0_1.out)
         rintro e w31 ⟨rfl, hb⟩
         refine ⟨_, rfl, ?_⟩
         replace BK101 := bb BK101 hb
         replace BK104 := bb BK104 hb
         replace BK105 := bb BK105 hb
         replace HB := bs HB hb
         (try clear hb)
         (try clear hb2)
         (try clear hk)
         (try clear hi)
         refine hK.out _ _ ⟨(blk_cell BK104.out 0).trans rfl, (blk_cell BK104.out 1).trans rfl, (blk_cell BK104.out 2).trans rfl, (blk_cell BK104.out 3).trans rfl, (blk_cell BK105.out 0).trans rfl, (blk_cell BK105.out 1).trans rfl, (blk_cell BK105.out 2).trans rfl, (blk_cell BK105.out 3).trans rfl, (blk_cell BK101.out 0).trans rfl, (blk_cell BK101.out 1).trans rfl, (cB HB hw108_0), (cB HB hw109_0)⟩ (fun hHeld => ?_)
         clear hK K
         refine norm_ (a' := ?_) ?_ ?_
         rotate_left
         ·show Act.put _ (some 31) _ = _
          simp only [Act.put, List.setIfInBounds_toArray, List.set_cons_zero, List.set_cons_succ, i64_w, i32_w]
          rfl
         refine pu 11 32 ?_
         refine on 30 (fun K hK => ?_)
         refine Kd.R_lit_step (Kd.int .i64) _ 3 ?hg (N := 51) ?hd (xs := ([wrap64 (((rd_T67 l0_0 a1).f1) - ((rd_T67 l0_0 a2).f1)), wrap64 (t106 - t107), wrap64 ((rd l0_1 ((rd_T67 l0_0 a1).f0)) - (rd l0_1 ((rd_T67 l0_0 a2).f0))), wrap64 (a1 - a2)] : List Int)) (inner := [.int .i64 (wrap64 (((rd_T67 l0_0 a1).f1) - ((rd_T67 l0_0 a2).f1))), .int .i64 (wrap64 (t106 - t107)), .int .i64 (wrap64 ((rd l0_1 ((rd_T67 l0_0 a1).f0)) - (rd l0_1 ((rd_T67 l0_0 a2).f0)))), .int .i64 (wrap64 (a1 - a2))]) (ok := fun _ => True) (okp := fun _ => True) ?hr ?hp (fun _ hk => hk) trivial (Below.refl _ _) (Nat.le_refl _) (by simp) ?_; (case hd => rfl); (case hg => rfl); (case hr => first | (go_simp; done) | (go_simp; rfl)); (case hp => exact (Reps.one (show Kd.M (Kd.int .i64) _ _ _ (wrap64 (((rd_T67 l0_0 a1).f1) - ((rd_T67 l0_0 a2).f1))) [.int .i64 (wrap64 (((rd_T67 l0_0 a1).f1) - ((rd_T67 l0_0 a2).f1)))] from rfl) (Reps.one (show Kd.M (Kd.int .i64) _ _ _ (wrap64 (t106 - t107)) [.int .i64 (wrap64 (t106 - t107))] from rfl) (Reps.one (show Kd.M (Kd.int .i64) _ _ _ (wrap64 ((rd l0_1 ((rd_T67 l0_0 a1).f0)) - (rd l0_1 ((rd_T67 l0_0 a2).f0)))) [.int .i64 (wrap64 ((rd l0_1 ((rd_T67 l0_0 a1).f0)) - (rd l0_1 ((rd_T67 l0_0 a2).f0))))] from rfl) (Reps.one (show Kd.M (Kd.int .i64) _ _ _ (wrap64 (a1 - a2)) [.int .i64 (wrap64 (a1 - a2))] from rfl) (Reps.none _ _))))))
         intro v111 w32 ho33 hb hg_ hnew_
         clear hg_ hnew_
         (first | rw [← Ny110.out] at ho33 | (simp only [Int.reduceToNat] at ho33; rw [← Ny110.out] at ho33))
         have HO112 := rl ho33 HB
         replace BK101 := bb BK101 hb
         replace BK104 := bb BK104 hb
         replace BK105 := bb BK105 hb
         replace HB := bs HB hb
         clear hb ho33
         obtain ⟨Ao34, co34, eo34⟩ := Kd.R_slice HO112.out
         (first | subst eo34 | (injection eo34 with f1_ f2_ f3_; have f4_ := f1_.symm; have f5_ := f3_.symm; clear f1_ f2_ f3_; subst f4_; subst f5_))
         refine hK.out _ _ ⟨(blk_cell BK104.out 0).trans rfl, (blk_cell BK104.out 1).trans rfl, (blk_cell BK104.out 2).trans rfl, (blk_cell BK104.out 3).trans rfl, (blk_cell BK105.out 0).trans rfl, (blk_cell BK105.out 1).trans rfl, (blk_cell BK105.out 2).trans rfl, (blk_cell BK105.out 3).trans rfl, (blk_cell BK101.out 0).trans rfl, (blk_cell BK101.out 1).trans rfl, (cB HB hw108_0), (cB HB hw109_0)⟩ (fun hHeld => ?_)
         clear hK K
         refine norm_ (a' := ?_) ?_ ?_
         rotate_left
         ·show Act.put _ (some 51) _ = _
          simp only [Act.put, List.setIfInBounds_toArray, List.set_cons_zero, List.set_cons_succ, i64_w, i32_w]
          rfl
         refine on 31 (fun K hK => ?_)
         refine gO Tryz.func109 #[.slice Ao34 y110.length co34] ?_
         with_reducible refine (cmp_Or_int.calls k _ _ y110 t113 _ ?side1 ?side2 A14.out).mono ?_
         (case side1 => exact pC (Kd.R_reads' HO112.out).2.2)
         (case side2 => exact (Kd.R_reads' HO112.out).2.1)
         rintro e w' ⟨rfl, ⟨nd, rfl⟩⟩
         refine ⟨_, rfl, ?_⟩
         refine hK.out _ _ ⟨(blk_cell BK104.out 0).trans rfl, (blk_cell BK104.out 1).trans rfl, (blk_cell BK104.out 2).trans rfl, (blk_cell BK104.out 3).trans rfl, (blk_cell BK105.out 0).trans rfl, (blk_cell BK105.out 1).trans rfl, (blk_cell BK105.out 2).trans rfl, (blk_cell BK105.out 3).trans rfl, (blk_cell BK101.out 0).trans rfl, (blk_cell BK101.out 1).trans rfl, (cB HB hw108_0), (cB HB hw109_0)⟩ (fun hHeld => ?_)
         clear hK K
         refine norm_ (a' := ?_) ?_ ?_
         rotate_left
         ·show Act.put _ (some 52) _ = _
          simp only [Act.put, List.setIfInBounds_toArray, List.set_cons_zero, List.set_cons_succ, i64_w, i32_w]
          rfl
         refine pu 32 6 ?_
         refine done_ (done_of HT_.out (by kernel_rfl)) ?_
         try go_wp2
         go_ret
         exact ⟨eT, pE HB⟩
        ·rw [if_neg c13] at H
         exact absurd H (by simp)
       ·rw [if_neg c12] at H
        exact absurd H (by simp)
      ·rw [if_neg c11] at H
       exact absurd H (by simp)
     ·rw [if_neg c10] at H
      exact absurd H (by simp)
    ·rw [if_neg c7] at H
     exact absurd H (by simp)
   ·rw [if_neg c6] at H
    exact absurd H (by simp)
  ·rw [if_neg c5] at H
   exact absurd H (by simp)
 ·rw [if_neg c4] at H
  exact absurd H (by simp)
mutual
def slices_insertionSortCmpFunc_int_at_turn_day_before_bound.l0 : Nat → List Int → Int → Int → Int → List (S67) → List Int → Option (List Int)
 | 0, _, _, _, _, _, _ => none
 | k + 1, x0, x1, x2, x8, x69000, x69001 => if x8 < x2 then (slices_insertionSortCmpFunc_int_at_turn_day_before_bound.l1 k x0 x1 x2 x8 x8 x69000 x69001) else (some x0)
def slices_insertionSortCmpFunc_int_at_turn_day_before_bound.l1 : Nat → List Int → Int → Int → Int → Int → List (S67) → List Int → Option (List Int)
 | 0, _, _, _, _, _, _, _ => none
 | k + 1, x0, x1, x2, x8, x9, x69000, x69001 => if x9 > x1 then (if 0 ≤ x9 then (if x9 < (x0.length : Int) then (if 0 ≤ (wrap64 (x9 - 1)) then (if (wrap64 (x9 - 1)) < (x0.length : Int) then ((turn_day_before.f k x69000 x69001 (rd x0 x9) (rd x0 (wrap64 (x9 - 1)))).bind fun t103 => (slices_insertionSortCmpFunc_int_at_turn_day_before_bound.j2 k x0 x1 x2 x8 x9 (decide (t103 < 0)) x69000 x69001)) else (none)) else (none)) else (none)) else (none)) else (slices_insertionSortCmpFunc_int_at_turn_day_before_bound.j2 k x0 x1 x2 x8 x9 false x69000 x69001)
def slices_insertionSortCmpFunc_int_at_turn_day_before_bound.j2 : Nat → List Int → Int → Int → Int → Int → Bool → List (S67) → List Int → Option (List Int)
 | 0, _, _, _, _, _, _, _, _ => none
 | k + 1, x0, x1, x2, x8, x9, x34, x69000, x69001 => if x34 = true then (if 0 ≤ (wrap64 (x9 - 1)) then (if (wrap64 (x9 - 1)) < (x0.length : Int) then (if 0 ≤ x9 then (if x9 < (x0.length : Int) then (slices_insertionSortCmpFunc_int_at_turn_day_before_bound.l1 k ((x0.set (x9 : Int).toNat (rd x0 (wrap64 (x9 - 1)))).set ((wrap64 (x9 - 1)) : Int).toNat (rd x0 x9)) x1 x2 x8 (wrap64 (x9 - 1)) x69000 x69001) else (none)) else (none)) else (none)) else (none)) else (slices_insertionSortCmpFunc_int_at_turn_day_before_bound.l0 k x0 x1 x2 (wrap64 (x8 + 1)) x69000 x69001)
end
def slices_insertionSortCmpFunc_int_at_turn_day_before_bound.f (k : Nat) (l0 : List Int) (a1 : Int) (a2 : Int) (l3_0 : List (S67)) (l3_1 : List Int) : Option (List Int) := slices_insertionSortCmpFunc_int_at_turn_day_before_bound.l0 k l0 a1 a2 (wrap64 (a1 + 1)) l3_0 l3_1
theorem slices_insertionSortCmpFunc_int_at_turn_day_before_bound.mono_l : ∀ k, (∀ y0 y1 y2 y3 y4 y5, LeO (slices_insertionSortCmpFunc_int_at_turn_day_before_bound.l0 k y0 y1 y2 y3 y4 y5) (slices_insertionSortCmpFunc_int_at_turn_day_before_bound.l0 (k + 1) y0 y1 y2 y3 y4 y5)) ∧ (∀ y0 y1 y2 y3 y4 y5 y6, LeO (slices_insertionSortCmpFunc_int_at_turn_day_before_bound.l1 k y0 y1 y2 y3 y4 y5 y6) (slices_insertionSortCmpFunc_int_at_turn_day_before_bound.l1 (k + 1) y0 y1 y2 y3 y4 y5 y6)) ∧ (∀ y0 y1 y2 y3 y4 y5 y6 y7, LeO (slices_insertionSortCmpFunc_int_at_turn_day_before_bound.j2 k y0 y1 y2 y3 y4 y5 y6 y7) (slices_insertionSortCmpFunc_int_at_turn_day_before_bound.j2 (k + 1) y0 y1 y2 y3 y4 y5 y6 y7))
 | 0 => ⟨fun _ _ _ _ _ _ r h => by simp [slices_insertionSortCmpFunc_int_at_turn_day_before_bound.l0] at h, fun _ _ _ _ _ _ _ r h => by simp [slices_insertionSortCmpFunc_int_at_turn_day_before_bound.l1] at h, fun _ _ _ _ _ _ _ _ r h => by simp [slices_insertionSortCmpFunc_int_at_turn_day_before_bound.j2] at h⟩
 | k + 1 => by
  obtain ⟨ih0, ih1, ih2⟩ := slices_insertionSortCmpFunc_int_at_turn_day_before_bound.mono_l k
  refine ⟨?_, ?_, ?_⟩
  ·intro y0 y1 y2 y3 y4 y5
   unfold slices_insertionSortCmpFunc_int_at_turn_day_before_bound.l0
   repeat' first
   | (with_reducible exact ih0 _ _ _ _ _ _)
   | (with_reducible exact ih1 _ _ _ _ _ _ _)
   | (with_reducible exact ih2 _ _ _ _ _ _ _ _)
   | (with_reducible exact turn_day_before.mono _ _ _ _ _)
   | (with_reducible exact LeO.refl _)
   | (with_reducible exact LeO.none _)
   | (with_reducible refine LeO.ite ?_ ?_)
   | (with_reducible refine LeO.bind ?_ (fun _ => ?_))
   | exact ih0 _ _ _ _ _ _
   | exact ih1 _ _ _ _ _ _ _
   | exact ih2 _ _ _ _ _ _ _ _
   | exact turn_day_before.mono _ _ _ _ _
   | exact LeO.none _
   | refine LeO.ite ?_ ?_
   | refine LeO.bind ?_ (fun _ => ?_)
  ·intro y0 y1 y2 y3 y4 y5 y6
   unfold slices_insertionSortCmpFunc_int_at_turn_day_before_bound.l1
   repeat' first
   | (with_reducible exact ih0 _ _ _ _ _ _)
   | (with_reducible exact ih1 _ _ _ _ _ _ _)
   | (with_reducible exact ih2 _ _ _ _ _ _ _ _)
   | (with_reducible exact turn_day_before.mono _ _ _ _ _)
   | (with_reducible exact LeO.refl _)
   | (with_reducible exact LeO.none _)
   | (with_reducible refine LeO.ite ?_ ?_)
   | (with_reducible refine LeO.bind ?_ (fun _ => ?_))
   | exact ih0 _ _ _ _ _ _
   | exact ih1 _ _ _ _ _ _ _
   | exact ih2 _ _ _ _ _ _ _ _
   | exact turn_day_before.mono _ _ _ _ _
   | exact LeO.none _
   | refine LeO.ite ?_ ?_
   | refine LeO.bind ?_ (fun _ => ?_)
  ·intro y0 y1 y2 y3 y4 y5 y6 y7
   unfold slices_insertionSortCmpFunc_int_at_turn_day_before_bound.j2
   repeat' first
   | (with_reducible exact ih0 _ _ _ _ _ _)
   | (with_reducible exact ih1 _ _ _ _ _ _ _)
   | (with_reducible exact ih2 _ _ _ _ _ _ _ _)
   | (with_reducible exact turn_day_before.mono _ _ _ _ _)
   | (with_reducible exact LeO.refl _)
   | (with_reducible exact LeO.none _)
   | (with_reducible refine LeO.ite ?_ ?_)
   | (with_reducible refine LeO.bind ?_ (fun _ => ?_))
   | exact ih0 _ _ _ _ _ _
   | exact ih1 _ _ _ _ _ _ _
   | exact ih2 _ _ _ _ _ _ _ _
   | exact turn_day_before.mono _ _ _ _ _
   | exact LeO.none _
   | refine LeO.ite ?_ ?_
   | refine LeO.bind ?_ (fun _ => ?_)
theorem slices_insertionSortCmpFunc_int_at_turn_day_before_bound.mono : ∀ a0 a1 a2 a3 a4 k, LeO (slices_insertionSortCmpFunc_int_at_turn_day_before_bound.f k a0 a1 a2 a3 a4) (slices_insertionSortCmpFunc_int_at_turn_day_before_bound.f (k + 1) a0 a1 a2 a3 a4) := by
 intro a0 a1 a2 a3 a4 k
 obtain ⟨ih0, ih1, ih2⟩ := slices_insertionSortCmpFunc_int_at_turn_day_before_bound.mono_l k
 unfold slices_insertionSortCmpFunc_int_at_turn_day_before_bound.f
 repeat' first
   | (with_reducible exact ih0 _ _ _ _ _ _)
   | (with_reducible exact ih1 _ _ _ _ _ _ _)
   | (with_reducible exact ih2 _ _ _ _ _ _ _ _)
   | (with_reducible exact turn_day_before.mono _ _ _ _ _)
   | (with_reducible exact LeO.refl _)
   | (with_reducible exact LeO.none _)
   | (with_reducible refine LeO.ite ?_ ?_)
   | (with_reducible refine LeO.bind ?_ (fun _ => ?_))
   | exact ih0 _ _ _ _ _ _
   | exact ih1 _ _ _ _ _ _ _
   | exact ih2 _ _ _ _ _ _ _ _
   | exact turn_day_before.mono _ _ _ _ _
   | exact LeO.none _
   | refine LeO.ite ?_ ?_
   | refine LeO.bind ?_ (fun _ => ?_)
def slices_insertionSortCmpFunc_int_at_turn_day_before_bound.T4 : Bool × List (List Nat × List Nat) := (true, [([], []), ([], []), ([0, 1], [0, 1]), ([2], [2]), ([3], [3]), ([3], [3]), ([3], [3]), ([5, 6, 3], [3, 5, 6]), ([7, 3], [3, 7]), ([3], [3]), ([3], [3]), ([10, 3], [3, 10]), ([9, 11, 3], [3, 9, 11]), ([12, 3], [3, 12]), ([4, 8, 13, 3, 3], [3, 4, 8, 13]), ([14, 3], [3, 14]), ([3, 15], [3, 15])])
def slices_insertionSortCmpFunc_int_at_turn_day_before_bound.B4 : List Nat := [0, 0, 3, 7, 15, 15, 15, 111, 239, 15, 15, 1039, 3599, 7695, 16383, 32767, 65535]
theorem slices_insertionSortCmpFunc_int_at_turn_day_before_bound.tab4 : rtab .any (opsOf Tryz.f125 4) = slices_insertionSortCmpFunc_int_at_turn_day_before_bound.T4 := by kernel_rfl
theorem slices_insertionSortCmpFunc_int_at_turn_day_before_bound.bits4 : waitsOk slices_insertionSortCmpFunc_int_at_turn_day_before_bound.T4.2 slices_insertionSortCmpFunc_int_at_turn_day_before_bound.B4 = true := by kernel_rfl
def slices_insertionSortCmpFunc_int_at_turn_day_before_bound.T6 : Bool × List (List Nat × List Nat) := (true, [([], []), ([], []), ([], []), ([], []), ([3], [3]), ([], []), ([], []), ([6], [6]), ([5, 7], [5, 7]), ([8], [8]), ([], []), ([], []), ([10, 11], [10, 11]), ([12], [12]), ([0, 1, 0, 1, 5, 6, 7, 8, 9, 13], [0, 1]), ([14, 9, 0, 1, 5, 6, 7, 8, 9, 13], [9, 14]), ([2, 4, 0, 1, 2, 3, 4, 5, 6, 7, 8, 9, 10, 11, 12, 13, 14, 15], [2, 4]), ([16, 13, 15, 0, 1, 2, 3, 4, 5, 6, 7, 8, 9, 10, 11, 12, 13, 14, 15], [13, 16])])
def slices_insertionSortCmpFunc_int_at_turn_day_before_bound.B6 : List Nat := [0, 0, 0, 0, 8, 0, 0, 64, 224, 480, 0, 0, 3072, 7168, 16355, 32739, 65535, 131071]
theorem slices_insertionSortCmpFunc_int_at_turn_day_before_bound.tab6 : rtab .any (opsOf Tryz.f125 6) = slices_insertionSortCmpFunc_int_at_turn_day_before_bound.T6 := by kernel_rfl
theorem slices_insertionSortCmpFunc_int_at_turn_day_before_bound.bits6 : waitsOk slices_insertionSortCmpFunc_int_at_turn_day_before_bound.T6.2 slices_insertionSortCmpFunc_int_at_turn_day_before_bound.B6 = true := by kernel_rfl
set_option maxHeartbeats 8000000 in
set_option maxRecDepth 100000 in
theorem slices_insertionSortCmpFunc_int_at_turn_day_before_bound.calls (k : Nat) (P0_ : Nat → Prop) (u9000_ : Value) (l0 : List Int) (a1 : Int) (a2 : Int) (A3_0 : Option Addr) (c3_0 : Nat) (l3_0 : List (S67)) (A3_1 : Option Addr) (c3_1 : Nat) (l3_1 : List Int) (r : List Int) (w0 w : World) (hB : Below w0.heap.size w0 w) (ho0 : Kd.R (Kd.int .i64) 3 w w0.heap.size P0_ u9000_ l0) (hr3_0 : ∀ W_, Kept w W_ (fun k_ => P0_ k_) → Kd.C k67 W_ A3_0 l3_0.length l3_0) (hc3_0 : l3_0.length ≤ c3_0) (hr3_1 : ∀ W_, Kept w W_ (fun k_ => P0_ k_) → Kd.C (Kd.int .i64) W_ A3_1 l3_1.length l3_1) (hc3_1 : l3_1.length ≤ c3_1) (h : slices_insertionSortCmpFunc_int_at_turn_day_before_bound.f k l0 a1 a2 l3_0 l3_1 = some r) :
  Calls Tryz.prog 125 #[u9000_, .int .i64 a1, .int .i64 a2, .func (.func 80) #[.agg #[.slice A3_0 l3_0.length c3_0, .slice A3_1 l3_1.length c3_1]] #[]] w fun e w' => e = .returned (.tuple #[]) ∧ Kd.R (Kd.int .i64) 3 w' w0.heap.size (fun k_ => (P0_ k_ ∨ w.heap.size ≤ k_)) u9000_ r ∧ Below w0.heap.size w0 w' ∧ Kept w w' (fun k_ => P0_ k_) := by
 have HO0 := Aside0.mk (show Kd.R (Kd.int .i64) 3 w w0.heap.size (fun k_ => (P0_ k_ ∨ w.heap.size ≤ k_)) u9000_ l0 from Kd.R_mono ho0 (fun k_ hk => (.inl hk)))
 have HR3_0 := Aside0.mk hr3_0
 have HC3_0 := Aside0.mk hc3_0
 clear hr3_0 hc3_0
 have HR3_1 := Aside0.mk hr3_1
 have HC3_1 := Aside0.mk hc3_1
 clear hr3_1 hc3_1
 have HK := Aside0.mk (Kept.refl w (fun k_ => P0_ k_))
 have HW0 := Aside0.mk hB.size
 have HB := Aside0.mk hB
 clear hB
 have H : (slices_insertionSortCmpFunc_int_at_turn_day_before_bound.l0 k l0 a1 a2 (wrap64 (a1 + 1)) l3_0 l3_1) = some r := h
 clear h
 have H' := Aside0.mk H
 clear H
 go_enter Tryz.func125, Tryz.ntmps125
 go_wp2
 (try simp only [Act.put, List.setIfInBounds_toArray, List.set_cons_zero, List.set_cons_succ])
 go_loopg [8] k (fun kq v8 w' => ∃ (x0_1 : List Int) (x8_1 : Int), v8 = .int .i64 x8_1 ∧ Aside0 (slices_insertionSortCmpFunc_int_at_turn_day_before_bound.l0 kq x0_1 a1 a2 x8_1 l3_0 l3_1 = some r) ∧ Aside0 (kq ≤ k) ∧ Aside0 (Kd.R (Kd.int .i64) 3 w' w0.heap.size (fun k_ => (P0_ k_ ∨ w.heap.size ≤ k_)) u9000_ x0_1) ∧ Aside0 (Kept w w' (fun k_ => P0_ k_)) ∧ Aside0 (Below w0.heap.size w0 w'))
 case atStart => exact ⟨(l0), (wrap64 (a1 + 1)), (by first | rfl | (simp; done) | (simp [*]; done)), H', ⟨Nat.le_refl _⟩, ⟨pR HO0.out⟩, ⟨by repeat (first | (with_reducible first | exact HK.out | apply Kept.alloc | apply Kept.drewN | apply Kept.drew) | exact HK.out)⟩, ⟨pE HB⟩⟩
 case round =>
  clear H'
  try clear p2
  try clear c3
  obtain ⟨x0_1, x8_1, rfl, HA, HK1, HO_0, HK, HB⟩ := hrel
  cases gk with
  | zero => exact absurd HA.out (by simp [slices_insertionSortCmpFunc_int_at_turn_day_before_bound.l0])
  | succ k1 =>
   have H := HA.out
   clear HA
   simp only [slices_insertionSortCmpFunc_int_at_turn_day_before_bound.l0] at H
   by_cases c5 : x8_1 < a2
   ·rw [if_pos c5] at H
    have c5b0 : decide (x8_1 < a2) = true := decide_eq_true c5
    clear c5
    have H' := Aside0.mk H
    clear H
    go_wp2
    (try simp only [Act.put, List.setIfInBounds_toArray, List.set_cons_zero, List.set_cons_succ])
    go_loopg [9] k1 (fun kq v9 w' => ∃ (x0_2 : List Int) (x9_2 : Int), v9 = .int .i64 x9_2 ∧ Aside0 (slices_insertionSortCmpFunc_int_at_turn_day_before_bound.l1 kq x0_2 a1 a2 x8_1 x9_2 l3_0 l3_1 = some r) ∧ Aside0 (kq ≤ k1) ∧ Aside0 (Kd.R (Kd.int .i64) 3 w' w0.heap.size (fun k_ => (P0_ k_ ∨ w.heap.size ≤ k_)) u9000_ x0_2) ∧ Aside0 (Kept w w' (fun k_ => P0_ k_)) ∧ Aside0 (Below w0.heap.size w0 w'))
    case atStart => exact ⟨(x0_1), (x8_1), (by first | rfl | (simp; done) | (simp [*]; done)), H', ⟨Nat.le_refl _⟩, ⟨pR HO_0.out⟩, ⟨by repeat (first | (with_reducible first | exact HK.out | apply Kept.alloc | apply Kept.drewN | apply Kept.drew) | exact HK.out)⟩, ⟨pE HB⟩⟩
    case round =>
     clear H'
     try clear p2
     try clear c3
     try clear c5
     try clear c5b0
     try clear p2
     obtain ⟨x0_2, x9_2, rfl, HA, HK2, HO_0, HK, HB⟩ := hrel
     cases gk with
     | zero => exact absurd HA.out (by simp [slices_insertionSortCmpFunc_int_at_turn_day_before_bound.l1])
     | succ k2 =>
      have H := HA.out
      clear HA
      simp only [slices_insertionSortCmpFunc_int_at_turn_day_before_bound.l1] at H
      have HC6 := Aside0.mk H
      clear H
      go_upto_region 4 with (fail)
      go_cut [34] (fun v34 wc => ∃ (kq : Nat) (x34_5 : Bool), v34 = .bool x34_5 ∧ Aside0 (slices_insertionSortCmpFunc_int_at_turn_day_before_bound.j2 kq x0_2 a1 a2 x8_1 x9_2 x34_5 l3_0 l3_1 = some r) ∧ Aside0 (kq ≤ k2) ∧ Aside0 (Kd.R (Kd.int .i64) 3 wc w0.heap.size (fun k_ => (P0_ k_ ∨ w.heap.size ≤ k_)) u9000_ x0_2) ∧ Aside0 (Kept w wc (fun k_ => P0_ k_)) ∧ Aside0 (Below w0.heap.size w0 wc))
      case first =>
       have H := HC6.out
       clear HC6
       by_cases c7 : x9_2 > a1
       ·rw [if_pos c7] at H
        have c7b0 : decide (a1 < x9_2) = true := decide_eq_true c7
        clear c7
        (first | rw [c7b0] | (simp only [i64_w, i32_w]; rw [c7b0]) | skip)
        by_cases c8 : 0 ≤ x9_2
        ·rw [if_pos c8] at H
         have c8b0 : decide (0 ≤ x9_2) = true := decide_eq_true c8
         clear c8
         by_cases c9 : x9_2 < (x0_2.length : Int)
         ·rw [if_pos c9] at H
          have c9b0 : decide (x9_2 < (x0_2.length : Int)) = true := decide_eq_true c9
          clear c9
          obtain ⟨ji10, hji10⟩ : ∃ j_ : Int, (wrap64 (x9_2 - 1)) = j_ := ⟨_, rfl⟩
          replace H : (if 0 ≤ (ji10) then (if (ji10) < (x0_2.length : Int) then ((turn_day_before.f k2 l3_0 l3_1 (rd x0_2 x9_2) (rd x0_2 (ji10))).bind fun t103 => (slices_insertionSortCmpFunc_int_at_turn_day_before_bound.j2 k2 x0_2 a1 a2 x8_1 x9_2 (decide (t103 < 0)) l3_0 l3_1)) else (none)) else (none)) = some r := by first | (rw [hji10] at H; exact H) | (simp only [hji10] at H ⊢; exact H)
          have hji10w : (IntKind.i64.wrap (x9_2 - 1)) = ji10 := (i64_w _).trans hji10
          by_cases c11 : 0 ≤ (ji10)
          ·rw [if_pos c11] at H
           have c11b0 : decide (0 ≤ (ji10)) = true := decide_eq_true c11
           clear c11
           by_cases c12 : (ji10) < (x0_2.length : Int)
           ·rw [if_pos c12] at H
            have c12b0 : decide ((ji10) < (x0_2.length : Int)) = true := decide_eq_true c12
            clear c12
            obtain ⟨t103, A13, H⟩ := bi H
            have H' := Aside0.mk H
            clear H
            try go_wp2
            replace HO_0 := Aside0.mk (Kd.R_drew HO_0.out)
            replace HK := Aside0.mk (Kept.drew HK.out)
            replace HB := Aside0.mk (below_drew1 HB.out)
            obtain ⟨Ao15, co15, eo15⟩ := Kd.R_slice HO_0.out
            (first | subst eo15 | (injection eo15 with f1_ f2_ f3_; have f4_ := f1_.symm; have f5_ := f3_.symm; clear f1_ f2_ f3_; subst f4_; subst f5_))
            have p101 : 0 ≤ (x9_2 : Int) := dT
            have q101 : x9_2 < (x0_2.length : Int) := dT
            obtain ⟨ad101, e101, hx101_0⟩ := Kd.at_int (Kd.R_reads' HO_0.out).2.2 x9_2 p101 q101
            cases e101
            replace p101 := eq_true p101
            replace q101 := eq_true q101
            have p102 : 0 ≤ ((ji10) : Int) := dT
            have q102 : (ji10) < (x0_2.length : Int) := dT
            obtain ⟨ad102, e102, hx102_0⟩ := Kd.at_int (Kd.R_reads' HO_0.out).2.2 (ji10) p102 q102
            obtain rfl : ad101 = ad102 := (by injection e102)
            replace p102 := eq_true p102
            replace q102 := eq_true q102
            refine start_ (n := 17) (S := fun w' => w'.cell? (ad101.add (x9_2).toNat) = some (.int .i64 (rd x0_2 x9_2)) ∧ w'.cell? (ad101.add ((ji10)).toNat) = some (.int .i64 (rd x0_2 (ji10)))) (ds := []) #[false, false, false, false, false, false, false, false, false, false, false, false, false, false, false, false, false] (by kernel_rfl) rfl rfl ⟨hx101_0, hx102_0⟩ (fun hHeld => ?_); refine with_tabW slices_insertionSortCmpFunc_int_at_turn_day_before_bound.tab4 slices_insertionSortCmpFunc_int_at_turn_day_before_bound.bits4 (fun HT_ HW_ => ?_)
            generalize wr.drew = w14 at HO_0 HK HB hx101_0 hx102_0 hHeld ⊢
            refine pu 0 18 ?_
            refine pu 1 19 ?_
            refine pu 2 20 ?_
            refine pu 3 21 ?_
            refine pu 4 22 ?_
            refine pu 5 23 ?_
            refine pu 6 24 ?_
            refine pu 7 25 ?_
            refine pu 9 27 ?_
            refine pu 10 28 ?_
            refine pu 11 29 ?_
            refine pu 12 30 ?_
            refine tk 8 26 hHeld ?_
            refine tk 13 31 hHeld ?_
            refine on 14 (fun K hK => ?_)
            refine goesW_ Tryz.func80 (by kernel_rfl) rfl #[.agg #[.slice A3_0 l3_0.length c3_0, .slice A3_1 l3_1.length c3_1], .int .i64 (rd x0_2 x9_2), .int .i64 (rd x0_2 (ji10))] (by rfl) rfl rfl rfl (by (try simp only [List.map_toArray, List.map_cons, List.map_nil]); first | done | (simp only [hji10]; rfl) | rfl | (simp only [List.length_drop, List.length_take]; rfl)) ?_
            with_reducible refine (turn_day_before.calls k2 _ _ l3_0 _ _ l3_1 (rd x0_2 x9_2) (rd x0_2 (ji10)) t103 _ ?side1 ?side2 ?side3 ?side4 A13.out).mono ?_
            (case side1 => exact Kd.C_kept_now HR3_0.out (by repeat (first | (with_reducible first | exact HK.out | apply Kept.alloc | apply Kept.drewN | apply Kept.drew) | exact HK.out)))
            (case side2 => exact HC3_0.out)
            (case side3 => exact Kd.C_kept_now HR3_1.out (by repeat (first | (with_reducible first | exact HK.out | apply Kept.alloc | apply Kept.drewN | apply Kept.drew) | exact HK.out)))
            (case side4 => exact HC3_1.out)
            rintro e w16 ⟨rfl, hb⟩
            have HS0_ := (hb.cell (World.block_lt_of_cell? _ _ (hHeld.1))).trans (hHeld.1)
            have HS1_ := (hb.cell (World.block_lt_of_cell? _ _ (hHeld.2))).trans (hHeld.2)
            refine ⟨_, rfl, ?_⟩
            replace HO_0 := rb HO_0 hb
            replace HK := Aside0.mk (Kept.below (S := (fun k_ => P0_ k_)) (by repeat (first | (with_reducible first | exact HK.out | apply Kept.alloc | apply Kept.drewN | apply Kept.drew) | exact HK.out)) hb)
            replace HB := bs HB hb
            (try clear hb)
            (try clear hb2)
            (try clear hk)
            (try clear hi)
            refine hK.out _ _ ⟨HS0_, HS1_⟩ (fun hHeld => ?_)
            clear hK K
            refine norm_ (a' := ?_) ?_ ?_
            rotate_left
            ·show Act.put _ (some 32) _ = _
             simp only [Act.put, List.setIfInBounds_toArray, List.set_cons_zero, List.set_cons_succ, i64_w, i32_w]
             rfl
            refine pu 15 33 ?_
            refine pu 16 34 ?_
            refine done_ (done_of HT_.out (by kernel_rfl)) ?_
            try go_wp2
            go_meet
            case rel => exact ⟨_, (decide (t103 < 0)), (by first | rfl | (simp; done) | (simp [*]; done)), H', ⟨by have := HK1.out; have := HK2.out; first | omega | exact Nat.le_refl _⟩, ⟨pR HO_0.out⟩, ⟨by repeat (first | (with_reducible first | exact HK.out | apply Kept.alloc | apply Kept.drewN | apply Kept.drew) | exact HK.out)⟩, ⟨pE HB⟩⟩
           ·rw [if_neg c12] at H
            exact absurd H (by simp)
          ·rw [if_neg c11] at H
           exact absurd H (by simp)
         ·rw [if_neg c9] at H
          exact absurd H (by simp)
        ·rw [if_neg c8] at H
         exact absurd H (by simp)
       ·rw [if_neg c7] at H
        have c7b0 : decide (a1 < x9_2) = false := decide_eq_false c7
        clear c7
        (first | rw [c7b0] | (simp only [i64_w, i32_w]; rw [c7b0]) | skip)
        have H' := Aside0.mk H
        clear H
        try go_wp2
        replace HO_0 := Aside0.mk (Kd.R_drew HO_0.out)
        replace HK := Aside0.mk (Kept.drew HK.out)
        replace HB := Aside0.mk (below_drew1 HB.out)
        refine start_ (n := 17) (S := fun w' => True) (ds := []) #[false, false, false, false, false, false, false, false, false, false, false, false, false, false, false, false, false] (by kernel_rfl) rfl rfl trivial (fun hHeld => ?_); refine with_tabW slices_insertionSortCmpFunc_int_at_turn_day_before_bound.tab4 slices_insertionSortCmpFunc_int_at_turn_day_before_bound.bits4 (fun HT_ HW_ => ?_)
        generalize wr.drew = w17 at HO_0 HK HB hHeld ⊢
        refine pu 0 18 ?_
        refine pu 1 19 ?_
        refine pu 2 20 ?_
        refine pu 3 21 ?_
        refine pd 4 22 ?_
        refine pd 5 23 ?_
        refine pd 6 24 ?_
        refine pd 7 25 ?_
        refine pd 8 26 ?_
        refine pd 9 27 ?_
        refine pd 10 28 ?_
        refine pd 11 29 ?_
        refine pd 12 30 ?_
        refine pd 13 31 ?_
        refine pd 14 32 ?_
        refine pd 15 33 ?_
        refine pu 16 34 ?_
        refine done_ (done_of HT_.out (by kernel_rfl)) ?_
        try go_wp2
        go_meet
        case rel => exact ⟨_, (false), (by first | rfl | (simp; done) | (simp [*]; done)), H', ⟨by have := HK1.out; have := HK2.out; first | omega | exact Nat.le_refl _⟩, ⟨pR HO_0.out⟩, ⟨by repeat (first | (with_reducible first | exact HK.out | apply Kept.alloc | apply Kept.drewN | apply Kept.drew) | exact HK.out)⟩, ⟨pE HB⟩⟩
      case rest =>
       clear HC6
       try clear c1
       try clear p1
       try clear q1
       try clear hx1
       try clear p2
       try clear c3
       try clear c5
       try clear c5b0
       try clear p6
       try clear c7
       try clear c7b0
       try clear c8
       try clear c8b0
       try clear c9
       try clear c9b0
       try clear p10
       try clear q10
       try clear hx10
       try clear c11
       try clear c11b0
       try clear c12
       try clear c12b0
       try clear hx101_0
       try clear hx102_0
       try clear p101
       try clear p102
       try clear p2
       try clear q101
       try clear q102
       obtain ⟨kq, x34_5, rfl, HA, HJ5, HO_0, HK, HB⟩ := hcut
       cases kq with
       | zero => exact absurd HA.out (by simp [slices_insertionSortCmpFunc_int_at_turn_day_before_bound.j2])
       | succ kj5 =>
        have H := HA.out
        clear HA
        simp only [slices_insertionSortCmpFunc_int_at_turn_day_before_bound.j2] at H
        by_cases c18 : x34_5 = true
        ·subst c18
         rw [if_pos rfl] at H
         obtain ⟨ji19, hji19⟩ : ∃ j_ : Int, (wrap64 (x9_2 - 1)) = j_ := ⟨_, rfl⟩
         replace H : (if 0 ≤ (ji19) then (if (ji19) < (x0_2.length : Int) then (if 0 ≤ x9_2 then (if x9_2 < (x0_2.length : Int) then (slices_insertionSortCmpFunc_int_at_turn_day_before_bound.l1 kj5 ((x0_2.set (x9_2 : Int).toNat (rd x0_2 (ji19))).set ((ji19) : Int).toNat (rd x0_2 x9_2)) a1 a2 x8_1 ji19 l3_0 l3_1) else (none)) else (none)) else (none)) else (none)) = some r := by first | (rw [hji19] at H; exact H) | (simp only [hji19] at H ⊢; exact H)
         have hji19w : (IntKind.i64.wrap (x9_2 - 1)) = ji19 := (i64_w _).trans hji19
         by_cases c20 : 0 ≤ (ji19)
         ·rw [if_pos c20] at H
          have c20b0 : decide (0 ≤ (ji19)) = true := decide_eq_true c20
          clear c20
          by_cases c21 : (ji19) < (x0_2.length : Int)
          ·rw [if_pos c21] at H
           have c21b0 : decide ((ji19) < (x0_2.length : Int)) = true := decide_eq_true c21
           clear c21
           by_cases c22 : 0 ≤ x9_2
           ·rw [if_pos c22] at H
            have c22b0 : decide (0 ≤ x9_2) = true := decide_eq_true c22
            clear c22
            by_cases c23 : x9_2 < (x0_2.length : Int)
            ·rw [if_pos c23] at H
             have c23b0 : decide (x9_2 < (x0_2.length : Int)) = true := decide_eq_true c23
             clear c23
             obtain ⟨y106, hy106⟩ : ∃ y_ : List Int, y_ = (x0_2.set (x9_2 : Int).toNat (rd x0_2 (ji19))) := ⟨_, rfl⟩
             replace H : (slices_insertionSortCmpFunc_int_at_turn_day_before_bound.l1 kj5 (y106.set ((ji19) : Int).toNat (rd x0_2 x9_2)) a1 a2 x8_1 ji19 l3_0 l3_1) = some r := yy hy106 H
             have Ny106 := Aside0.mk hy106
             clear hy106
             obtain ⟨y107, hy107⟩ : ∃ y_ : List Int, y_ = (y106.set ((ji19) : Int).toNat (rd x0_2 x9_2)) := ⟨_, rfl⟩
             replace H : (slices_insertionSortCmpFunc_int_at_turn_day_before_bound.l1 kj5 y107 a1 a2 x8_1 ji19 l3_0 l3_1) = some r := yy hy107 H
             have Ny107 := Aside0.mk hy107
             clear hy107
             have H' := Aside0.mk H
             clear H
             try go_wp2
             replace HO_0 := Aside0.mk (Kd.R_drew HO_0.out)
             replace HK := Aside0.mk (Kept.drew HK.out)
             replace HB := Aside0.mk (below_drew1 HB.out)
             obtain ⟨Ao27, co27, eo27⟩ := Kd.R_slice HO_0.out
             (first | subst eo27 | (injection eo27 with f1_ f2_ f3_; have f4_ := f1_.symm; have f5_ := f3_.symm; clear f1_ f2_ f3_; subst f4_; subst f5_))
             have p104 : 0 ≤ ((ji19) : Int) := dT
             have q104 : (ji19) < (x0_2.length : Int) := dT
             obtain ⟨ad104, e104, hx104_0⟩ := Kd.at_int (Kd.R_reads' HO_0.out).2.2 (ji19) p104 q104
             cases e104
             replace p104 := eq_true p104
             replace q104 := eq_true q104
             have p105 : 0 ≤ (x9_2 : Int) := dT
             have q105 : x9_2 < (x0_2.length : Int) := dT
             obtain ⟨ad105, e105, hx105_0⟩ := Kd.at_int (Kd.R_reads' HO_0.out).2.2 x9_2 p105 q105
             obtain rfl : ad104 = ad105 := (by injection e105)
             replace p105 := eq_true p105
             replace q105 := eq_true q105
             have p24 : 0 ≤ (x9_2 : Int) := dT
             have q24 : (x9_2 : Int) < ((x0_2.length : Int) : Int) := dT
             obtain ⟨go24, co24, eo24, gb24, gl24, cl24, HG24⟩ := Kd.R_form HO_0.out (by omega)
             (first | cases eo24 | (injection eo24 with ea_ en_ ec_; (first | subst ea_ | (injection ea_ with ea_; subst ea_)); subst ec_; clear en_))
             have GB24 := Aside0.mk gb24
             have GG24 := Aside0.mk HG24
             clear gb24 gl24 HG24
             have HMgo24 := Aside0.mk (show (P0_ go24 ∨ w.heap.size ≤ go24) from (HO_0.out.1 _ rfl))
             (first | simp only [add_plain] at hx104_0 | skip)
             (first | simp only [add_plain] at hx105_0 | skip)
             obtain ⟨hx24_0, hf24_0⟩ := Kd.R_celln 0 HO_0.out (x9_2 : Int) p24 q24
             replace p24 := eq_true p24
             replace q24 := eq_true q24
             have HP28 := Kd.R_putn HO_0.out (x9_2 : Int) (rd x0_2 (ji19))
             rw [← Ny106.out] at HP28
             have HQ28 := Aside0.mk HP28
             clear HP28
             have p25 : 0 ≤ ((ji19) : Int) := dT
             have q25 : ((ji19) : Int) < ((x0_2.length : Int) : Int) := dT
             obtain ⟨hx25_0, hf25_0⟩ := Kd.R_celln 0 HQ28.out ((ji19) : Int) p25 q25
             replace p25 := eq_true p25
             replace q25 := eq_true q25
             have HP29 := Kd.R_putn HQ28.out ((ji19) : Int) (rd x0_2 x9_2)
             rw [← Ny107.out] at HP29
             have HQ29 := Aside0.mk HP29
             clear HP29
             refine start_ (n := 18) (S := fun w' => w'.cell? ⟨go24, ((ji19)).toNat, none⟩ = some (.int .i64 (rd x0_2 (ji19))) ∧ w'.cell? ⟨go24, (x9_2).toNat, none⟩ = some (.int .i64 (rd x0_2 x9_2))) (ds := [15, 17]) #[false, false, false, false, false, false, false, false, false, false, false, false, false, false, false, false, false, false] (by kernel_rfl) rfl rfl ⟨hx104_0, hx105_0⟩ (fun hHeld => ?_); refine with_tabW slices_insertionSortCmpFunc_int_at_turn_day_before_bound.tab6 slices_insertionSortCmpFunc_int_at_turn_day_before_bound.bits6 (fun HT_ HW_ => ?_)
             generalize wc.drew = w26 at HO_0 HK HB GG24 HQ28 HQ29 hf24_0 hf25_0 hx104_0 hx105_0 hx24_0 hx25_0 hHeld ⊢
             refine pu 0 37 ?_
             refine pu 1 38 ?_
             refine pu 2 39 ?_
             refine pu 3 40 ?_
             refine pu 4 41 ?_
             refine pu 5 42 ?_
             refine pu 6 43 ?_
             refine pu 7 44 ?_
             refine pu 8 45 ?_
             refine pu 10 47 ?_
             refine pu 11 48 ?_
             refine pu 12 49 ?_
             refine tk 9 46 hHeld ?_
             refine tk 13 50 hHeld ?_
             refine pu 14 51 ?_
             refine last_ (i := 15) (N := none) #[true, true, true, true, true, true, true, true, true, true, true, true, true, true, true, true, false, false] rfl rfl (one_of HT_.out (by kernel_rfl)) (by decide) (fun K hK => ?_)
             refine skip_ (w1 := ?_) (by rfl) rfl ?_ ?_
             rotate_left
             ·go_simp
              rfl
             refine hK.out _ _ ?_
             clear hK K
             refine pu 16 52 ?_
             refine last_ (i := 17) (N := none) #[true, true, true, true, true, true, true, true, true, true, true, true, true, true, true, true, true, true] rfl rfl (one_of HT_.out (by kernel_rfl)) (by decide) (fun K hK => ?_)
             refine skip_ (w1 := ?_) (by rfl) rfl ?_ ?_
             rotate_left
             ·go_simp
              rfl
             refine hK.out _ _ ?_
             clear hK K
             refine done_ (done_of HT_.out (by kernel_rfl)) ?_
             try go_wp2
             go_roundg kj5
             case measure => have := HK1.out; have := HK2.out; have := HJ5.out; omega
             case rel => exact ⟨(y107), (ji19), (by first | rfl | (simp; done) | (simp only [← hji19] <;> (first | rfl | simp)) | (simp [*]; done)), H', ⟨by have := HK1.out; have := HK2.out; have := HJ5.out; omega⟩, ⟨pR HQ29.out⟩, ⟨by repeat (first | (with_reducible first | exact HK.out | apply Kept.alloc | apply Kept.drewN | apply Kept.drew | refine Kept.setCell ?_ HMgo24.out _ | refine Kept.setCell ?_ HMgo24.out _) | exact HK.out)⟩, ⟨pE HB⟩⟩
            ·rw [if_neg c23] at H
             exact absurd H (by simp)
           ·rw [if_neg c22] at H
            exact absurd H (by simp)
          ·rw [if_neg c21] at H
           exact absurd H (by simp)
         ·rw [if_neg c20] at H
          exact absurd H (by simp)
        ·replace c18 := Bool.eq_false_iff.mpr c18
         subst c18
         rw [if_neg (show ¬ (false = true) by decide)] at H
         have H' := Aside0.mk H
         clear H
         go_wp2
         go_roundg kj5
         case measure => have := HK1.out; have := HK2.out; have := HJ5.out; omega
         case rel => exact ⟨(x0_2), (wrap64 (x8_1 + 1)), (by first | rfl | (simp; done) | (simp [*]; done)), H', ⟨by have := HK1.out; have := HK2.out; have := HJ5.out; omega⟩, ⟨pR HO_0.out⟩, ⟨by repeat (first | (with_reducible first | exact HK.out | apply Kept.alloc | apply Kept.drewN | apply Kept.drew) | exact HK.out)⟩, ⟨pE HB⟩⟩
   ·rw [if_neg c5] at H
    have c5b0 : decide (x8_1 < a2) = false := decide_eq_false c5
    clear c5
    obtain rfl := Option.some.inj H
    go_wp2
    first | go_end0 | ((try simp only [Exit.inBlock, Exit.then]); refine bodyPost_ret (results_none rfl _ _ _) rfl ?_)
    exact ⟨eT, pR HO_0.out, pE HB, by repeat (first | (with_reducible first | exact HK.out | apply Kept.alloc | apply Kept.drewN | apply Kept.drew) | exact HK.out)⟩
def slices_pdqsortCmpFunc_int_at_turn_day_before_bound.l0 : Nat → List Int → Int → Int → Int → Bool → List (S67) → List Int → Option (List Int)
 | 0, _, _, _, _, _, _, _ => none
 | k + 1, x0, x1, x2, x3, x10, x75000, x75001 => if (wrap64 (x2 - x1)) ≤ 12 then ((slices_insertionSortCmpFunc_int_at_turn_day_before_bound.f k x0 x1 x2 x75000 x75001).bind fun t101 => (some t101)) else (if x3 = 0 then (none) else (if x10 = true then (none) else (none)))
def slices_pdqsortCmpFunc_int_at_turn_day_before_bound.f (k : Nat) (l0 : List Int) (a1 : Int) (a2 : Int) (a3 : Int) (l4_0 : List (S67)) (l4_1 : List Int) : Option (List Int) := slices_pdqsortCmpFunc_int_at_turn_day_before_bound.l0 k l0 a1 a2 a3 true l4_0 l4_1
theorem slices_pdqsortCmpFunc_int_at_turn_day_before_bound.mono_l : ∀ k, (∀ y0 y1 y2 y3 y4 y5 y6, LeO (slices_pdqsortCmpFunc_int_at_turn_day_before_bound.l0 k y0 y1 y2 y3 y4 y5 y6) (slices_pdqsortCmpFunc_int_at_turn_day_before_bound.l0 (k + 1) y0 y1 y2 y3 y4 y5 y6))
 | 0 => fun _ _ _ _ _ _ _ r h => by simp [slices_pdqsortCmpFunc_int_at_turn_day_before_bound.l0] at h
 | k + 1 => by
  have ih0 := slices_pdqsortCmpFunc_int_at_turn_day_before_bound.mono_l k
  ·intro y0 y1 y2 y3 y4 y5 y6
   unfold slices_pdqsortCmpFunc_int_at_turn_day_before_bound.l0
   repeat' first
   | (with_reducible exact ih0 _ _ _ _ _ _ _)
   | (with_reducible exact slices_insertionSortCmpFunc_int_at_turn_day_before_bound.mono _ _ _ _ _ _)
   | (with_reducible exact LeO.refl _)
   | (with_reducible exact LeO.none _)
   | (with_reducible refine LeO.ite ?_ ?_)
   | (with_reducible refine LeO.bind ?_ (fun _ => ?_))
   | exact ih0 _ _ _ _ _ _ _
   | exact slices_insertionSortCmpFunc_int_at_turn_day_before_bound.mono _ _ _ _ _ _
   | exact LeO.none _
   | refine LeO.ite ?_ ?_
   | refine LeO.bind ?_ (fun _ => ?_)
theorem slices_pdqsortCmpFunc_int_at_turn_day_before_bound.mono : ∀ a0 a1 a2 a3 a4 a5 k, LeO (slices_pdqsortCmpFunc_int_at_turn_day_before_bound.f k a0 a1 a2 a3 a4 a5) (slices_pdqsortCmpFunc_int_at_turn_day_before_bound.f (k + 1) a0 a1 a2 a3 a4 a5) := by
 intro a0 a1 a2 a3 a4 a5 k
 have ih0 := slices_pdqsortCmpFunc_int_at_turn_day_before_bound.mono_l k
 unfold slices_pdqsortCmpFunc_int_at_turn_day_before_bound.f
 repeat' first
   | (with_reducible exact ih0 _ _ _ _ _ _ _)
   | (with_reducible exact slices_insertionSortCmpFunc_int_at_turn_day_before_bound.mono _ _ _ _ _ _)
   | (with_reducible exact LeO.refl _)
   | (with_reducible exact LeO.none _)
   | (with_reducible refine LeO.ite ?_ ?_)
   | (with_reducible refine LeO.bind ?_ (fun _ => ?_))
   | exact ih0 _ _ _ _ _ _ _
   | exact slices_insertionSortCmpFunc_int_at_turn_day_before_bound.mono _ _ _ _ _ _
   | exact LeO.none _
   | refine LeO.ite ?_ ?_
   | refine LeO.bind ?_ (fun _ => ?_)
set_option maxHeartbeats 8000000 in
set_option maxRecDepth 100000 in
theorem slices_pdqsortCmpFunc_int_at_turn_day_before_bound.calls (k : Nat) (P0_ : Nat → Prop) (u9000_ : Value) (l0 : List Int) (a1 : Int) (a2 : Int) (a3 : Int) (A4_0 : Option Addr) (c4_0 : Nat) (l4_0 : List (S67)) (A4_1 : Option Addr) (c4_1 : Nat) (l4_1 : List Int) (r : List Int) (w0 w : World) (hB : Below w0.heap.size w0 w) (ho0 : Kd.R (Kd.int .i64) 3 w w0.heap.size P0_ u9000_ l0) (hr4_0 : ∀ W_, Kept w W_ (fun k_ => P0_ k_) → Kd.C k67 W_ A4_0 l4_0.length l4_0) (hc4_0 : l4_0.length ≤ c4_0) (hr4_1 : ∀ W_, Kept w W_ (fun k_ => P0_ k_) → Kd.C (Kd.int .i64) W_ A4_1 l4_1.length l4_1) (hc4_1 : l4_1.length ≤ c4_1) (h : slices_pdqsortCmpFunc_int_at_turn_day_before_bound.f k l0 a1 a2 a3 l4_0 l4_1 = some r) :
  Calls Tryz.prog 119 #[u9000_, .int .i64 a1, .int .i64 a2, .int .i64 a3, .func (.func 80) #[.agg #[.slice A4_0 l4_0.length c4_0, .slice A4_1 l4_1.length c4_1]] #[]] w fun e w' => e = .returned (.tuple #[]) ∧ Kd.R (Kd.int .i64) 3 w' w0.heap.size (fun k_ => (P0_ k_ ∨ w.heap.size ≤ k_)) u9000_ r ∧ Below w0.heap.size w0 w' ∧ Kept w w' (fun k_ => P0_ k_) := by
 have HO0 := Aside0.mk (show Kd.R (Kd.int .i64) 3 w w0.heap.size (fun k_ => (P0_ k_ ∨ w.heap.size ≤ k_)) u9000_ l0 from Kd.R_mono ho0 (fun k_ hk => (.inl hk)))
 have HR4_0 := Aside0.mk hr4_0
 have HC4_0 := Aside0.mk hc4_0
 clear hr4_0 hc4_0
 have HR4_1 := Aside0.mk hr4_1
 have HC4_1 := Aside0.mk hc4_1
 clear hr4_1 hc4_1
 have HK := Aside0.mk (Kept.refl w (fun k_ => P0_ k_))
 have HW0 := Aside0.mk hB.size
 have HB := Aside0.mk hB
 clear hB
 have H : (slices_pdqsortCmpFunc_int_at_turn_day_before_bound.l0 k l0 a1 a2 a3 true l4_0 l4_1) = some r := h
 clear h
 have H' := Aside0.mk H
 clear H
 go_enter Tryz.func119, Tryz.ntmps119
 go_wp2
 (try simp only [Act.put, List.setIfInBounds_toArray, List.set_cons_zero, List.set_cons_succ])
 go_loopg [1, 2, 3, 10] k (fun kq v1 v2 v3 v10 w' => ∃ (x0_1 : List Int) (x1_1 : Int) (x2_1 : Int) (x3_1 : Int) (x10_1 : Bool), v1 = .int .i64 x1_1 ∧ v2 = .int .i64 x2_1 ∧ v3 = .int .i64 x3_1 ∧ v10 = .bool x10_1 ∧ Aside0 (slices_pdqsortCmpFunc_int_at_turn_day_before_bound.l0 kq x0_1 x1_1 x2_1 x3_1 x10_1 l4_0 l4_1 = some r) ∧ Aside0 (kq ≤ k) ∧ Aside0 (Kd.R (Kd.int .i64) 3 w' w0.heap.size (fun k_ => (P0_ k_ ∨ w.heap.size ≤ k_)) u9000_ x0_1) ∧ Aside0 (Kept w w' (fun k_ => P0_ k_)) ∧ Aside0 (Below w0.heap.size w0 w'))
 case atStart => exact ⟨(l0), (a1), (a2), (a3), (true), (by first | rfl | (simp; done) | (simp [*]; done)), (by first | rfl | (simp; done) | (simp [*]; done)), (by first | rfl | (simp; done) | (simp [*]; done)), (by first | rfl | (simp; done) | (simp [*]; done)), H', ⟨Nat.le_refl _⟩, ⟨pR HO0.out⟩, ⟨by repeat (first | (with_reducible first | exact HK.out | apply Kept.alloc | apply Kept.drewN | apply Kept.drew) | exact HK.out)⟩, ⟨pE HB⟩⟩
 case round =>
  clear H'
  try clear p2
  try clear c4
  obtain ⟨x0_1, x1_1, x2_1, x3_1, x10_1, rfl, rfl, rfl, rfl, HA, HK1, HO_0, HK, HB⟩ := hrel
  cases gk with
  | zero => exact absurd HA.out (by simp [slices_pdqsortCmpFunc_int_at_turn_day_before_bound.l0])
  | succ k1 =>
   have H := HA.out
   clear HA
   simp only [slices_pdqsortCmpFunc_int_at_turn_day_before_bound.l0] at H
   by_cases c6 : (wrap64 (x2_1 - x1_1)) ≤ 12
   ·rw [if_pos c6] at H
    have c6b0 : decide ((wrap64 (x2_1 - x1_1)) ≤ 12) = true := decide_eq_true c6
    clear c6
    obtain ⟨t101, A7, H⟩ := bi H
    obtain rfl := Option.some.inj H
    obtain ⟨Ao8, co8, eo8⟩ := Kd.R_slice HO_0.out
    subst eo8
    go_wp2_with (first | ((with_reducible refine gc 125 rfl ?_); refine gL 30 Tryz.func125 #[.slice Ao8 x0_1.length co8, .int .i64 x1_1, .int .i64 x2_1, .func (.func 80) #[.agg #[.slice A4_0 l4_0.length c4_0, .slice A4_1 l4_1.length c4_1]] #[]] ?_; (with_reducible refine (slices_insertionSortCmpFunc_int_at_turn_day_before_bound.calls k1 (fun k_ => some k_ = (.slice Ao8 x0_1.length co8 : Value).ownBlock) (.slice Ao8 x0_1.length co8) x0_1 x1_1 x2_1 _ _ l4_0 _ _ l4_1 t101 w0 _ ?side1 ?side2 ?side3 ?side4 ?side5 ?side6 A7.out).mono ?_); (case side1 => repeat (first | (with_reducible first | exact HB.out | apply below_alloc | apply pw_below_drewN | apply below_drew1) | exact HB.out)); (case side2 => exact Kd.R_tight rfl HO_0.out); (case side3 => exact Kd.C_kept_call HR4_0.out (by repeat (first | (with_reducible first | exact HK.out | apply Kept.alloc | apply Kept.drewN | apply Kept.drew) | exact HK.out)) (fun k_ hs_ => (fun e_ => (HO_0.out.1 k_ e_.symm)) hs_)); (case side4 => exact HC4_0.out); (case side5 => exact Kd.C_kept_call HR4_1.out (by repeat (first | (with_reducible first | exact HK.out | apply Kept.alloc | apply Kept.drewN | apply Kept.drew) | exact HK.out)) (fun k_ hs_ => (fun e_ => (HO_0.out.1 k_ e_.symm)) hs_)); (case side6 => exact HC4_1.out); rintro e w9 ⟨rfl, hy0, hb, hkp⟩; refine ⟨_, rfl, ?_⟩; replace HK := Aside0.mk (Kept.then_ (S := (fun k_ => P0_ k_)) (by repeat (first | (with_reducible first | exact HK.out | apply Kept.alloc | apply Kept.drewN | apply Kept.drew) | exact HK.out)) hkp (fun k_ hs_ => (fun e_ => (HO_0.out.1 k_ e_.symm)) hs_)); replace HO_0 := Aside0.mk (Kd.R_reok rfl hy0 (fun k_ e_ => HO_0.out.1 k_ e_)); replace HB := Aside0.mk (hb); clear hb hkp hy0))
    first | go_end0 | ((try simp only [Exit.inBlock, Exit.then]); refine bodyPost_ret (results_none rfl _ _ _) rfl ?_)
    exact ⟨eT, pR HO_0.out, pE HB, by repeat (first | (with_reducible first | exact HK.out | apply Kept.alloc | apply Kept.drewN | apply Kept.drew) | exact HK.out)⟩
   ·rw [if_neg c6] at H
    have c6b0 : decide ((wrap64 (x2_1 - x1_1)) ≤ 12) = false := decide_eq_false c6
    clear c6
    by_cases c10 : x3_1 = 0
    ·rw [if_pos c10] at H
     exact absurd H (by simp)
    ·rw [if_neg c10] at H
     have c10b0 : (x3_1 == 0) = false := beq_eq_false_iff_ne.mpr c10
     have c10b1 : (x3_1 != 0) = true := bne_iff_ne.mpr c10
     by_cases c11 : x10_1 = true
     ·subst c11
      rw [if_pos rfl] at H
      exact absurd H (by simp)
     ·replace c11 := Bool.eq_false_iff.mpr c11
      subst c11
      rw [if_neg (show ¬ (false = true) by decide)] at H
      exact absurd H (by simp)
def slices_SortFunc_int_int_at_turn_day_before_bound.f (k : Nat) (l0 : List Int) (l1_0 : List (S67)) (l1_1 : List Int) : Option (List Int) := (bits_Len.f k (IntKind.u64.wrap ((l0.length : Int)))).bind fun t101 => ((slices_pdqsortCmpFunc_int_at_turn_day_before_bound.f k l0 0 (l0.length : Int) t101 l1_0 l1_1).bind fun t102 => (some t102))
theorem slices_SortFunc_int_int_at_turn_day_before_bound.mono : ∀ a0 a1 a2 k, LeO (slices_SortFunc_int_int_at_turn_day_before_bound.f k a0 a1 a2) (slices_SortFunc_int_int_at_turn_day_before_bound.f (k + 1) a0 a1 a2) := by
 intro a0 a1 a2 k
 unfold slices_SortFunc_int_int_at_turn_day_before_bound.f
 repeat' first
   | (with_reducible exact bits_Len.mono _ _)
   | (with_reducible exact slices_pdqsortCmpFunc_int_at_turn_day_before_bound.mono _ _ _ _ _ _ _)
   | (with_reducible exact LeO.refl _)
   | (with_reducible exact LeO.none _)
   | (with_reducible refine LeO.ite ?_ ?_)
   | (with_reducible refine LeO.bind ?_ (fun _ => ?_))
   | exact bits_Len.mono _ _
   | exact slices_pdqsortCmpFunc_int_at_turn_day_before_bound.mono _ _ _ _ _ _ _
   | exact LeO.none _
   | refine LeO.ite ?_ ?_
   | refine LeO.bind ?_ (fun _ => ?_)
set_option maxHeartbeats 8000000 in
set_option maxRecDepth 100000 in
theorem slices_SortFunc_int_int_at_turn_day_before_bound.calls (k : Nat) (P0_ : Nat → Prop) (u9000_ : Value) (l0 : List Int) (A1_0 : Option Addr) (c1_0 : Nat) (l1_0 : List (S67)) (A1_1 : Option Addr) (c1_1 : Nat) (l1_1 : List Int) (r : List Int) (w0 w : World) (hB : Below w0.heap.size w0 w) (ho0 : Kd.R (Kd.int .i64) 3 w w0.heap.size P0_ u9000_ l0) (hr1_0 : ∀ W_, Kept w W_ (fun k_ => P0_ k_) → Kd.C k67 W_ A1_0 l1_0.length l1_0) (hc1_0 : l1_0.length ≤ c1_0) (hr1_1 : ∀ W_, Kept w W_ (fun k_ => P0_ k_) → Kd.C (Kd.int .i64) W_ A1_1 l1_1.length l1_1) (hc1_1 : l1_1.length ≤ c1_1) (h : slices_SortFunc_int_int_at_turn_day_before_bound.f k l0 l1_0 l1_1 = some r) :
  Calls Tryz.prog 97 #[u9000_, .func (.func 80) #[.agg #[.slice A1_0 l1_0.length c1_0, .slice A1_1 l1_1.length c1_1]] #[]] w fun e w' => e = .returned (.tuple #[]) ∧ Kd.R (Kd.int .i64) 3 w' w0.heap.size (fun k_ => (P0_ k_ ∨ w.heap.size ≤ k_)) u9000_ r ∧ Below w0.heap.size w0 w' ∧ Kept w w' (fun k_ => P0_ k_) := by
 have HO0 := Aside0.mk (show Kd.R (Kd.int .i64) 3 w w0.heap.size (fun k_ => (P0_ k_ ∨ w.heap.size ≤ k_)) u9000_ l0 from Kd.R_mono ho0 (fun k_ hk => (.inl hk)))
 have HR1_0 := Aside0.mk hr1_0
 have HC1_0 := Aside0.mk hc1_0
 clear hr1_0 hc1_0
 have HR1_1 := Aside0.mk hr1_1
 have HC1_1 := Aside0.mk hc1_1
 clear hr1_1 hc1_1
 have HK := Aside0.mk (Kept.refl w (fun k_ => P0_ k_))
 have HW0 := Aside0.mk hB.size
 have HB := Aside0.mk hB
 clear hB
 have H : ((bits_Len.f k (IntKind.u64.wrap ((l0.length : Int)))).bind fun t101 => ((slices_pdqsortCmpFunc_int_at_turn_day_before_bound.f k l0 0 (l0.length : Int) t101 l1_0 l1_1).bind fun t102 => (some t102))) = some r := h
 clear h
 obtain ⟨t101, A3, H⟩ := bi H
 obtain ⟨t102, A4, H⟩ := bi H
 obtain rfl := Option.some.inj H
 obtain ⟨Ao5, co5, eo5⟩ := Kd.R_slice HO0.out
 subst eo5
 go_enter Tryz.func97, Tryz.ntmps97
 go_wp2_with (first | ((with_reducible refine gc 120 rfl ?_); refine gL 11 Tryz.func120 #[.int .u64 (IntKind.u64.wrap ((l0.length : Int)))] ?_; (with_reducible refine (bits_Len.calls k (IntKind.u64.wrap ((l0.length : Int))) t101 _ A3.out).mono ?_); rintro e w' ⟨rfl, ⟨nd, rfl⟩⟩; refine ⟨_, rfl, ?_⟩) | ((with_reducible refine gc 119 rfl ?_); refine gL 13 Tryz.func119 #[.slice Ao5 l0.length co5, .int .i64 0, .int .i64 (l0.length : Int), .int .i64 t101, .func (.func 80) #[.agg #[.slice A1_0 l1_0.length c1_0, .slice A1_1 l1_1.length c1_1]] #[]] ?_; (with_reducible refine (slices_pdqsortCmpFunc_int_at_turn_day_before_bound.calls k (fun k_ => some k_ = (.slice Ao5 l0.length co5 : Value).ownBlock) (.slice Ao5 l0.length co5) l0 0 (l0.length : Int) t101 _ _ l1_0 _ _ l1_1 t102 w0 _ ?side1 ?side2 ?side3 ?side4 ?side5 ?side6 A4.out).mono ?_); (case side1 => repeat (first | (with_reducible first | exact HB.out | apply below_alloc | apply pw_below_drewN | apply below_drew1) | exact HB.out)); (case side2 => exact Kd.R_tight rfl HO0.out); (case side3 => exact Kd.C_kept_call HR1_0.out (by repeat (first | (with_reducible first | exact HK.out | apply Kept.alloc | apply Kept.drewN | apply Kept.drew) | exact HK.out)) (fun k_ hs_ => (fun e_ => (HO0.out.1 k_ e_.symm)) hs_)); (case side4 => exact HC1_0.out); (case side5 => exact Kd.C_kept_call HR1_1.out (by repeat (first | (with_reducible first | exact HK.out | apply Kept.alloc | apply Kept.drewN | apply Kept.drew) | exact HK.out)) (fun k_ hs_ => (fun e_ => (HO0.out.1 k_ e_.symm)) hs_)); (case side6 => exact HC1_1.out); rintro e w6 ⟨rfl, hy0, hb, hkp⟩; refine ⟨_, rfl, ?_⟩; replace HK := Aside0.mk (Kept.then_ (S := (fun k_ => P0_ k_)) (by repeat (first | (with_reducible first | exact HK.out | apply Kept.alloc | apply Kept.drewN | apply Kept.drew) | exact HK.out)) hkp (fun k_ hs_ => (fun e_ => (HO0.out.1 k_ e_.symm)) hs_)); replace HO0 := Aside0.mk (Kd.R_reok rfl hy0 (fun k_ e_ => HO0.out.1 k_ e_)); replace HB := Aside0.mk (hb); clear hb hkp hy0))
 first | go_end0 | ((try simp only [Exit.inBlock, Exit.then]); refine bodyPost_ret (results_none rfl _ _ _) rfl ?_)
 exact ⟨eT, pR HO0.out, pE HB, by repeat (first | (with_reducible first | exact HK.out | apply Kept.alloc | apply Kept.drewN | apply Kept.drew) | exact HK.out)⟩
def turn_day_order.l0 : Nat → List Int → Int → Int → List (S67) → List Int → Option (List Int)
 | 0, _, _, _, _, _ => none
 | k + 1, x2, x7, x8, x102000, x102001 => if x8 < x7 then (if x2.length < 17592186044416 then (turn_day_order.l0 k (x2 ++ [x8]) x7 (wrap64 (x8 + 1)) x102000 x102001) else (none)) else ((slices_SortFunc_int_int_at_turn_day_before_bound.f k x2 x102000 x102001).bind fun t106 => (some t106))
def turn_day_order.f (k : Nat) (l0_0 : List (S67)) (l0_1 : List Int) : Option (List Int) := turn_day_order.l0 k ([] : List Int) (l0_0.length : Int) 0 l0_0 l0_1
theorem turn_day_order.mono_l : ∀ k, (∀ y0 y1 y2 y3 y4, LeO (turn_day_order.l0 k y0 y1 y2 y3 y4) (turn_day_order.l0 (k + 1) y0 y1 y2 y3 y4))
 | 0 => fun _ _ _ _ _ r h => by simp [turn_day_order.l0] at h
 | k + 1 => by
  have ih0 := turn_day_order.mono_l k
  ·intro y0 y1 y2 y3 y4
   unfold turn_day_order.l0
   repeat' first
   | (with_reducible exact ih0 _ _ _ _ _)
   | (with_reducible exact slices_SortFunc_int_int_at_turn_day_before_bound.mono _ _ _ _)
   | (with_reducible exact LeO.refl _)
   | (with_reducible exact LeO.none _)
   | (with_reducible refine LeO.ite ?_ ?_)
   | (with_reducible refine LeO.bind ?_ (fun _ => ?_))
   | exact ih0 _ _ _ _ _
   | exact slices_SortFunc_int_int_at_turn_day_before_bound.mono _ _ _ _
   | exact LeO.none _
   | refine LeO.ite ?_ ?_
   | refine LeO.bind ?_ (fun _ => ?_)
theorem turn_day_order.mono : ∀ a0 a1 k, LeO (turn_day_order.f k a0 a1) (turn_day_order.f (k + 1) a0 a1) := by
 intro a0 a1 k
 have ih0 := turn_day_order.mono_l k
 unfold turn_day_order.f
 repeat' first
   | (with_reducible exact ih0 _ _ _ _ _)
   | (with_reducible exact slices_SortFunc_int_int_at_turn_day_before_bound.mono _ _ _ _)
   | (with_reducible exact LeO.refl _)
   | (with_reducible exact LeO.none _)
   | (with_reducible refine LeO.ite ?_ ?_)
   | (with_reducible refine LeO.bind ?_ (fun _ => ?_))
   | exact ih0 _ _ _ _ _
   | exact slices_SortFunc_int_int_at_turn_day_before_bound.mono _ _ _ _
   | exact LeO.none _
   | refine LeO.ite ?_ ?_
   | refine LeO.bind ?_ (fun _ => ?_)
set_option maxHeartbeats 8000000 in
set_option maxRecDepth 100000 in
theorem turn_day_order.calls (k : Nat) (A0_0 : Option Addr) (c0_0 : Nat) (l0_0 : List (S67)) (A0_1 : Option Addr) (c0_1 : Nat) (l0_1 : List Int) (r : List Int) (w : World) (hr0_0 : Kd.C k67 w A0_0 l0_0.length l0_0) (hc0_0 : l0_0.length ≤ c0_0) (hr0_1 : Kd.C (Kd.int .i64) w A0_1 l0_1.length l0_1) (hc0_1 : l0_1.length ≤ c0_1) (h : turn_day_order.f k l0_0 l0_1 = some r) :
  Calls Tryz.prog 63 #[.agg #[.slice A0_0 l0_0.length c0_0, .slice A0_1 l0_1.length c0_1]] w fun e w' => ∃ v0_ : Value, e = .returned (v0_) ∧ Kd.R (Kd.int .i64) 3 w' w.heap.size (fun _ => True) v0_ r ∧ Below w.heap.size w w' := by
 have hu99 := Tryz.underlying99
 have HR0_0 := Aside0.mk hr0_0
 have HC0_0 := Aside0.mk hc0_0
 clear hr0_0 hc0_0
 have HR0_1 := Aside0.mk hr0_1
 have HC0_1 := Aside0.mk hc0_1
 clear hr0_1 hc0_1
 have HB := Aside0.mk (Below.refl w.heap.size w)
 have H : (turn_day_order.l0 k ([] : List Int) (l0_0.length : Int) 0 l0_0 l0_1) = some r := h
 clear h
 have H' := Aside0.mk H
 clear H
 go_enter Tryz.func63, Tryz.ntmps63
 go_wp2_with (first | ((with_reducible refine gate_dst (N := 1) rfl ?_); refine bx 1 #[.slice A0_0 l0_0.length c0_0, .slice A0_1 l0_1.length c0_1] 99 ?_; intro gb101 hg w2 hbox hb; have BK101 := hbox; have GW101 := gs HB hg; have GE101 := gs HB hg; replace HB := bs HB hb; clear hb hbox hg; obtain ⟨hcz3_0, hcz3_1, hfz3_0, hfz3_1⟩ := cf2 BK101))
 go_loopg [2, 8] k (fun kq v2 v8 w' => ∃ (x2_1 : List Int) (x8_1 : Int), v8 = .int .i64 x8_1 ∧ Aside0 (turn_day_order.l0 kq x2_1 (l0_0.length : Int) x8_1 l0_0 l0_1 = some r) ∧ Aside0 (kq ≤ k) ∧ Aside0 (Kd.R (Kd.int .i64) 3 w' w.heap.size (fun _ => True) v2 x2_1) ∧ Aside0 (w'.heap[gb101]? = some (.cells #[(.slice A0_0 l0_0.length c0_0), (.slice A0_1 l0_1.length c0_1)] 99 (0, 0))) ∧ Aside0 (Below w.heap.size w w'))
 case atStart => exact ⟨(([] : List Int)), (0), (by first | rfl | (simp; done) | (simp [*]; done)), H', ⟨Nat.le_refl _⟩, ⟨by first | exact Kd.R_nil _ _ _ _ _ | exact Kd.N_nil _ _ _ _ _ | exact Kd.V_nil _ _ _ _ _ | exact Kd.Q_nil _ _ _ _ _ | exact Kd.S_nil _ _ _ _ _⟩, ⟨pB BK101.out⟩, ⟨pE HB⟩⟩
 case round =>
  clear H'
  try clear p2
  try clear hcz3_0
  try clear hcz3_1
  try clear hfz3_0
  try clear hfz3_1
  obtain ⟨x2_1, x8_1, rfl, HA, HK1, HO_2, BK101, HB⟩ := hrel
  cases gk with
  | zero => exact absurd HA.out (by simp [turn_day_order.l0])
  | succ k1 =>
   have H := HA.out
   clear HA
   simp only [turn_day_order.l0] at H
   by_cases c4 : x8_1 < (l0_0.length : Int)
   ·rw [if_pos c4] at H
    have c4b0 : decide (x8_1 < (l0_0.length : Int)) = true := decide_eq_true c4
    clear c4
    by_cases c5 : x2_1.length < 17592186044416
    ·rw [if_pos c5] at H
     have LMc5 := Aside0.mk c5
     clear c5
     obtain ⟨y102, hy102⟩ : ∃ y_ : List Int, y_ = (x2_1 ++ [x8_1]) := ⟨_, rfl⟩
     replace H : (turn_day_order.l0 k1 y102 (l0_0.length : Int) (wrap64 (x8_1 + 1)) l0_0 l0_1) = some r := yy hy102 H
     have Ny102 := Aside0.mk hy102
     clear hy102
     have H' := Aside0.mk H
     clear H
     go_wp2_with (first | ((with_reducible refine gate_builtin (b := .append) (xs := #[.tmp 11, .tmp 13]) rfl ?_); at_builtin; refine Kd.R_append (Kd.int .i64) (w0 := w) w.heap.size rfl (.tmp 11) (.tmp 13) 23 3 (.int .i64 0) 8 rfl Tryz.underlying23 info3 rfl (by decide) (by omega) u2 x2_1 x8_1 [.int .i64 x8_1] (fun _ => True) (fun _ => False) rfl rfl ?aP (fun _ hk => hk.elim) ?aF ?aO ?aB ?aS ?aL ?_; (case aP => exact rfl); (case aB => exact (pE HB)); (case aF => exact (fun _ _ => trivial)); (case aO => exact (pR HO_2.out)); (case aS => exact (below_size (pE HB))); (case aL => have := LMc5.out; omega); intro v103 w6 ho hb hg hat; rw [← Ny102.out] at ho; replace BK101 := Aside0.mk (blk_grown (g := gb101) (o := .cells #[.slice A0_0 l0_0.length c0_0, .slice A0_1 l0_1.length c0_1] 99 (0, 0)) (pB BK101.out) hg (Kd.R_ne HO_2.out BK101.out (by decide))); replace HB := Aside0.mk (hb); have HO104 := Aside0.mk (ho); clear HO_2; clear ho hb hg hat))
     go_roundg k1
     case measure => have := HK1.out; omega
     case rel => exact ⟨(y102), (wrap64 (x8_1 + 1)), (by first | rfl | (simp; done) | (simp [*]; done)), H', ⟨by have := HK1.out; omega⟩, ⟨pR HO104.out⟩, ⟨pB BK101.out⟩, ⟨pE HB⟩⟩
    ·rw [if_neg c5] at H
     exact absurd H (by simp)
   ·rw [if_neg c4] at H
    have c4b0 : decide (x8_1 < (l0_0.length : Int)) = false := decide_eq_false c4
    clear c4
    obtain ⟨t106, A7, H⟩ := bi H
    obtain rfl := Option.some.inj H
    obtain ⟨_, _, _, _⟩ := cf2 BK101
    obtain ⟨Ao9, co9, eo9⟩ := Kd.R_slice HO_2.out
    subst eo9
    go_wp2_with (first | ((with_reducible refine gc 97 rfl ?_); refine gL 19 Tryz.func97 #[.slice Ao9 x2_1.length co9, .func (.func 80) #[.agg #[.slice A0_0 l0_0.length c0_0, .slice A0_1 l0_1.length c0_1]] #[]] ?_; (with_reducible refine (slices_SortFunc_int_int_at_turn_day_before_bound.calls k1 (fun k_ => some k_ = (.slice Ao9 x2_1.length co9 : Value).ownBlock) (.slice Ao9 x2_1.length co9) x2_1 _ _ l0_0 _ _ l0_1 t106 w _ ?side1 ?side2 ?side3 ?side4 ?side5 ?side6 A7.out).mono ?_); (case side1 => repeat (first | (with_reducible first | exact HB.out | apply below_alloc | apply pw_below_drewN | apply below_drew1 | refine below_set ?_ GE101.out) | exact HB.out)); (case side2 => exact Kd.R_tight rfl HO_2.out); (case side3 => exact Kd.C_kept_came k67_heap HR0_0.out (pE HB) (fun k_ hs_ => (fun e_ => Kd.R_base HO_2.out k_ e_.symm) hs_)); (case side4 => exact HC0_0.out); (case side5 => exact Kd.C_kept_came (Kd.heap_int .i64) HR0_1.out (pE HB) (fun k_ hs_ => (fun e_ => Kd.R_base HO_2.out k_ e_.symm) hs_)); (case side6 => exact HC0_1.out); rintro e w10 ⟨rfl, hy0, hb, hkp⟩; refine ⟨_, rfl, ?_⟩; replace BK101 := Aside0.mk (blk_kept (pB BK101.out) hkp (fun hs_ => (fun e_ => (Kd.R_ne HO_2.out BK101.out (by decide)) e_) hs_)); replace HO_2 := Aside0.mk (Kd.R_reok rfl hy0 (fun k_ e_ => HO_2.out.1 k_ e_)); replace HB := Aside0.mk (hb); clear hb hkp hy0))
    go_ret
    exact ⟨_, eT, pR HO_2.out, pE HB⟩
end Go.Proofs.YtlmglnobdcgbeaaGreat.P
namespace Go.Proofs.YtlmglnobdcgbeaaGreat.P
open Go.RowKit Go.Shelf Go.Proofs.YtlmglnobdcgbeaaGreatW.PrintWords Go.Proofs.YtlmglnobdcgbeaaGreatW.PrintLast Go.Proofs.YtlmglnobdcgbeaaGreatW.PrintMore Go.Proofs.YtlmglnobdcgbeaaGreat.R
def worstW (a : Int × Int) (t : Int × Int) : Int × Int := if t.2 > a.2 then t else a
theorem marks_q {P : Program} {F : Fence} {n : Nat} {f : FuncId} {fn : Func} {c : Code} {args : Array Value} {w : World} {R : Ending → World → Prop}
    (hf : P.funcs[f]? = some fn) (hb : fn.body = some c) (hF : F.fn f)
    (h : ∀ Q : Exit → Act → World → Prop, (∀ c a a' w, a.defers = a'.defers → Q (.panic c) a w → Q (.panic c) a' w) → (∀ e a w, (∀ c, e = .panic c → False) → bodyPostM F n P fn R e a w → Q e a w) → c.wpIn F n P Q { tmps := args ++ Array.replicate (fn.ntmps - args.size) undef, defers := [] } w) (hro : F.round = none := by rfl) : CallsIn F n P f args w R := by
  let Q : Exit → Act → World → Prop := fun e a w => match e with | .panic _ => False | e => bodyPostM F n P fn R e a w
  refine callsIn_of_wp_marks hf hb hF (Code.wpIn_mono (Q := Q) (fun e a w hq => ?_) (h Q (fun c a a' w e h => h) (fun e a w hn hb => ?_))) hro
  · cases e with
    | panic c => exact hq.elim
    | _ => exact hq
  · cases e with
    | panic c => exact (hn c rfl).elim
    | _ => exact hb
theorem results_cct {fn : Func} {tmps : Array Value} {w : World} {p q u : Tmp} {g1 g2 : Nat} {x y : Int} {z : Value} (h : fn.results = #[.cell p 3, .cell q 3, .tmp u]) (hp : tmps.getD p undef = .pointer (some ⟨g1, 0, none⟩)) (hq : tmps.getD q undef = .pointer (some ⟨g2, 0, none⟩)) (hz : tmps.getD u undef = z)
    (b1 : w.heap[g1]? = some (.cells #[.int .i64 x] 3 (0, 0))) (b2 : w.heap[g2]? = some (.cells #[.int .i64 y] 3 (0, 0))) (hu : Tryz.prog.underlying 3 = some (.int .i64)) : (results fn tmps).run Tryz.prog w = .ok (.tuple #[.int .i64 x, .int .i64 y, z]) w := by
  have c1 : w.cell? ⟨g1, 0, none⟩ = some (.int .i64 x) := (blk_cell b1 0).trans rfl
  have c2 : w.cell? ⟨g2, 0, none⟩ = some (.int .i64 y) := (blk_cell b2 0).trans rfl
  unfold results
  rw [h]
  simp only [Array.getD_eq_getD_getElem?] at hp hq hz
  simp [go_sem, hp, hq, hz, c1, c2]
def waitsO (cl : List S67) (ord : List Int) (m : Int) : Option (Int × Int) := if okT cl ord m = true then some ((waitsL cl ord m).foldl worstW (0, -1)) else none
theorem waitsO_spec {cl : List S67} {ord : List Int} {m : Int} {z : Int × Int} (h : waitsO cl ord m = some z) : okT cl ord m = true ∧ (waitsL cl ord m).foldl worstW (0, -1) = z := by
  unfold waitsO at h
  split at h
  · exact ⟨by assumption, Option.some.inj h⟩
  · cases h
def turn_Waits.f (k : Nat) (l0_0 : List (S67)) (l0_1 : List Int) (a1 : Int) : Option (Int × Int × Int) := (turn_open.f k l0_0 l0_1 a1 0).bind fun bt104 => (if bt104.2.2 = 0 then (if (bt104.1.length : Int) = 0 then (some (0, 0, 7)) else ((turn_day_order.f k bt104.1 bt104.2.1).bind fun t112 => ((waitsO bt104.1 t112 a1).bind fun t115 => (some (t115.1, t115.2, 0))))) else (some (0, 0, bt104.2.2)))
theorem turn_Waits.mono : ∀ a0 a1 a2 k, LeO (turn_Waits.f k a0 a1 a2) (turn_Waits.f (k + 1) a0 a1 a2) := by
  intro a0 a1 a2 k
  unfold turn_Waits.f
  repeat' first
      | (with_reducible exact turn_day_order.mono _ _ _)
      | (with_reducible exact turn_open.mono _ _ _ _ _)
      | (with_reducible exact LeO.refl _)
      | (with_reducible exact LeO.none _)
      | (with_reducible refine LeO.ite ?_ ?_)
      | (with_reducible refine LeO.bind ?_ (fun _ => ?_))
      | exact turn_day_order.mono _ _ _
      | exact turn_open.mono _ _ _ _ _
      | exact LeO.none _
      | refine LeO.ite ?_ ?_
      | refine LeO.bind ?_ (fun _ => ?_)
set_option maxHeartbeats 8000000 in
set_option maxRecDepth 100000 in
theorem turn_Waits.calls (k : Nat) (A0_0 : Option Addr) (c0_0 : Nat) (l0_0 : List (S67)) (A0_1 : Option Addr) (c0_1 : Nat) (l0_1 : List Int) (a1 : Int) (r1 : Int) (r2 : Int) (r3 : Int) (w : World) (hr0_0 : Kd.C k67 w A0_0 l0_0.length l0_0) (hc0_0 : l0_0.length ≤ c0_0) (hr0_1 : Kd.C (Kd.int .i64) w A0_1 l0_1.length l0_1) (hc0_1 : l0_1.length ≤ c0_1) (h : turn_Waits.f k l0_0 l0_1 a1 = some (r1, r2, r3)) :
    Calls Tryz.prog 26 #[.agg #[.slice A0_0 l0_0.length c0_0, .slice A0_1 l0_1.length c0_1], .int .i64 a1] w fun e w' => e = .returned (.tuple #[.int .i64 r1, .int .i64 r2, .int .i64 r3]) ∧ Below w.heap.size w w' := by
  have hu25 := Tryz.underlying25
  have hu99 := Tryz.underlying99
  have HR0_0 := Aside0.mk hr0_0
  have HC0_0 := Aside0.mk hc0_0
  clear hr0_0 hc0_0
  have HR0_1 := Aside0.mk hr0_1
  have HC0_1 := Aside0.mk hc0_1
  clear hr0_1 hc0_1
  have HB := Aside0.mk (Below.refl w.heap.size w)
  have H : ((turn_open.f k l0_0 l0_1 a1 0).bind fun bt104 => (if bt104.2.2 = 0 then (if (bt104.1.length : Int) = 0 then (some (0, 0, 7)) else ((turn_day_order.f k bt104.1 bt104.2.1).bind fun t112 => ((waitsO bt104.1 t112 a1).bind fun t115 => (some (t115.1, t115.2, 0))))) else (some (0, 0, bt104.2.2)))) = some (r1, r2, r3) := h
  clear h
  obtain ⟨⟨t104, t107, t110⟩, A3, H⟩ := bi H
  by_cases c4 : t110 = 0
  · rw [if_pos c4] at H
    have c4b0 : (t110 == 0) = true := beq_iff_eq.mpr c4
    have c4b1 : (t110 != 0) = false := bne_eq_false_iff_eq.mpr c4
    clear c4
    by_cases c5 : (t104.length : Int) = 0
    · rw [if_pos c5] at H
      have c5b0 : ((t104.length : Int) == 0) = true := beq_iff_eq.mpr c5
      have c5b1 : ((t104.length : Int) != 0) = false := bne_eq_false_iff_eq.mpr c5
      clear c5
      simp only [Option.some.injEq, Prod.mk.injEq] at H
      obtain ⟨rfl, rfl, rfl⟩ := H
      go_enter Tryz.func26, Tryz.ntmps26
      go_wp2_with (first | ((with_reducible refine gate_dst (N := 2) rfl ?_); refine bx 2 #[.slice A0_0 l0_0.length c0_0, .slice A0_1 l0_1.length c0_1] 25 ?_; intro gb101 hg w6 hbox hb; have BK101 := hbox; have GW101 := gs HB hg; have GE101 := gs HB hg; replace HB := bs HB hb; clear hb hbox hg) | ((with_reducible refine gate_dst (N := 4) rfl ?_); refine bx 4 #[.int .i64 0] 3 ?_; intro gb102 hg w7 hbox hb; have BK102 := hbox; have GW102 := gs HB hg; have GE102 := gs HB hg; replace HB := bs HB hb; have NB101_102 := nl BK101 hg; have NB102_101 := nr BK101 hg; replace BK101 := bb BK101 hb; clear hb hbox hg) | ((with_reducible refine gate_dst (N := 5) rfl ?_); refine bx 5 #[.int .i64 0] 3 ?_; intro gb103 hg w8 hbox hb; have BK103 := hbox; have GW103 := gs HB hg; have GE103 := gs HB hg; replace HB := bs HB hb; have NB101_103 := nl BK101 hg; have NB103_101 := nr BK101 hg; replace BK101 := bb BK101 hb; have NB102_103 := nl BK102 hg; have NB103_102 := nr BK102 hg; replace BK102 := bb BK102 hb; clear hb hbox hg; have hnb9 := NB101_102.out; have hnc9 := NB102_101.out; have hnb10 := NB101_103.out; have hnc10 := NB103_101.out; obtain ⟨_, _, _, _⟩ := cf2 BK101) | ((with_reducible refine gc 62 rfl ?_); refine gL 13 Tryz.func62 #[.agg #[.slice A0_0 l0_0.length c0_0, .slice A0_1 l0_1.length c0_1], .int .i64 a1, .int .i64 0] ?_; (with_reducible refine (turn_open.calls k (fun k_ => k_ < w.heap.size) _ _ l0_0 (fun k_ => k_ < w.heap.size) _ _ l0_1 a1 0 t104 t107 t110 _ ?side1 ?side2 A3.out).mono ?_); (case side1 => exact Kd.V_mk HC0_0.out (Kd.F_below (Kd.C_F k67_heap HR0_0.out) (pE HB))); (case side2 => exact Kd.V_mk HC0_1.out (Kd.F_below (Kd.C_F (Kd.heap_int .i64) HR0_1.out) (pE HB))); rintro e w12 ⟨v105, v108, rfl, ho0, ho1, hb⟩; refine ⟨_, rfl, ?_⟩; have HO106 := Aside0.mk (Kd.V_lower (Kd.V_mono (ok' := fun k_ => k_ ≠ gb101 ∧ k_ ≠ gb102 ∧ k_ ≠ gb103) ho0 (fun k_ hk_ => ⟨Or.elim hk_ (fun hs_ => Or.elim hs_ (fun hs_ => fun e_ => Nat.not_le.2 hs_ (by rw [e_]; exact GW101.out)) (fun hs_ => fun e_ => Nat.not_le.2 hs_ (by rw [e_]; exact GW101.out))) (fun hn_ => (Kd.freshB (g := gb101) (o := .cells #[.slice A0_0 l0_0.length c0_0, .slice A0_1 l0_1.length c0_1] 25 (0, 0)) (pB BK101.out) k_ hn_)), Or.elim hk_ (fun hs_ => Or.elim hs_ (fun hs_ => fun e_ => Nat.not_le.2 hs_ (by rw [e_]; exact GW102.out)) (fun hs_ => fun e_ => Nat.not_le.2 hs_ (by rw [e_]; exact GW102.out))) (fun hn_ => (Kd.freshB (g := gb102) (o := .cells #[.int .i64 0] 3 (0, 0)) (pB BK102.out) k_ hn_)), Or.elim hk_ (fun hs_ => Or.elim hs_ (fun hs_ => fun e_ => Nat.not_le.2 hs_ (by rw [e_]; exact GW103.out)) (fun hs_ => fun e_ => Nat.not_le.2 hs_ (by rw [e_]; exact GW103.out))) (fun hn_ => (Kd.freshB (g := gb103) (o := .cells #[.int .i64 0] 3 (0, 0)) (pB BK103.out) k_ hn_))⟩)) (below_size (pE HB))); have HO109 := Aside0.mk (Kd.V_lower (Kd.V_mono (ok' := fun k_ => k_ ≠ gb101 ∧ k_ ≠ gb102 ∧ k_ ≠ gb103) ho1 (fun k_ hk_ => ⟨Or.elim hk_ (fun hs_ => Or.elim hs_ (fun hs_ => fun e_ => Nat.not_le.2 hs_ (by rw [e_]; exact GW101.out)) (fun hs_ => fun e_ => Nat.not_le.2 hs_ (by rw [e_]; exact GW101.out))) (fun hn_ => (Kd.freshB (g := gb101) (o := .cells #[.slice A0_0 l0_0.length c0_0, .slice A0_1 l0_1.length c0_1] 25 (0, 0)) (pB BK101.out) k_ hn_)), Or.elim hk_ (fun hs_ => Or.elim hs_ (fun hs_ => fun e_ => Nat.not_le.2 hs_ (by rw [e_]; exact GW102.out)) (fun hs_ => fun e_ => Nat.not_le.2 hs_ (by rw [e_]; exact GW102.out))) (fun hn_ => (Kd.freshB (g := gb102) (o := .cells #[.int .i64 0] 3 (0, 0)) (pB BK102.out) k_ hn_)), Or.elim hk_ (fun hs_ => Or.elim hs_ (fun hs_ => fun e_ => Nat.not_le.2 hs_ (by rw [e_]; exact GW103.out)) (fun hs_ => fun e_ => Nat.not_le.2 hs_ (by rw [e_]; exact GW103.out))) (fun hn_ => (Kd.freshB (g := gb103) (o := .cells #[.int .i64 0] 3 (0, 0)) (pB BK103.out) k_ hn_))⟩)) (below_size (pE HB))); replace BK101 := bb BK101 hb; replace BK102 := bb BK102 hb; replace BK103 := bb BK103 hb; replace HB := bs HB hb; clear hb ho0 ho1) | ((with_reducible refine gate_dst (N := 7) rfl ?_); refine bx 7 #[.slice none 0 0, .slice none 0 0] 99 ?_; intro gb111 hg w13 hbox hb; replace HO106 := ve HO106 hg hb; replace HO109 := ve HO109 hg hb; have BK111 := hbox; have GW111 := gs HB hg; have GE111 := gs HB hg; replace HB := bs HB hb; have NB101_111 := nl BK101 hg; have NB111_101 := nr BK101 hg; replace BK101 := bb BK101 hb; have NB102_111 := nl BK102 hg; have NB111_102 := nr BK102 hg; replace BK102 := bb BK102 hb; have NB103_111 := nl BK103 hg; have NB111_103 := nr BK103 hg; replace BK103 := bb BK103 hb; clear hb hbox hg; obtain ⟨Ao14, co14, eo14⟩ := Kd.V_slice HO106.out; subst eo14; have hnb15 := NB111_101.out; have hnc15 := NB101_111.out; have hnb16 := NB111_102.out; have hnc16 := NB102_111.out; have hnb17 := NB111_103.out; have hnc17 := NB103_111.out; obtain ⟨_, _, _, _⟩ := cf2 BK111; obtain ⟨Ao19, co19, eo19⟩ := Kd.V_slice HO109.out; subst eo19; have hnb20 := NB102_103.out; have hnc20 := NB103_102.out; obtain ⟨_, _⟩ := cf1 BK102; obtain ⟨_, _⟩ := cf1 BK103))
      refine bodyPost_ret (results_cct (p := 4) (q := 5) (u := 6) (g1 := gb102) (g2 := gb103) (x := 0) (y := 0) rfl rfl rfl rfl (by refine pB ?_; refine blk_far ?_ NB102_103.out _; refine pB ?_; refine blk_put (cs := #[.int .i64 0]) ?_ 0 _ rfl; refine pB ?_; refine blk_far ?_ NB102_111.out _; refine pB ?_; refine blk_far ?_ NB102_111.out _; exact pB BK102.out) (by refine pB ?_; refine blk_put (cs := #[.int .i64 0]) ?_ 0 _ rfl; refine pB ?_; refine blk_far ?_ NB103_102.out _; refine pB ?_; refine blk_far ?_ NB103_111.out _; refine pB ?_; refine blk_far ?_ NB103_111.out _; exact pB BK103.out) Tryz.underlying3) rfl ?_
      exact ⟨eT, pE HB⟩
    · rw [if_neg c5] at H
      have c5b0 : ((t104.length : Int) == 0) = false := beq_eq_false_iff_ne.mpr c5
      have c5b1 : ((t104.length : Int) != 0) = true := bne_iff_ne.mpr c5
      have c5b2 : ¬ (t104 = []) := fun h_ => c5 (by rw [h_]; rfl)
      obtain ⟨t112, A23, H⟩ := bi H
      obtain ⟨t115, A24, H⟩ := bi H
      simp only [Option.some.injEq, Prod.mk.injEq] at H
      obtain ⟨rfl, rfl, rfl⟩ := H
      refine (callsIn_wide (n := 5)).1 (marks_q Tryz.func26 rfl trivial (fun Qf_ hqp_ hqf_ => ?_) rfl)
      have HQP := Aside0.mk hqp_
      have HQF := Aside0.mk hqf_
      clear hqp_ hqf_
      simp only [Tryz.ntmps26, List.size_toArray, List.length_cons, List.length_nil, Nat.reduceAdd, Nat.reduceSub, Array.replicate_succ, Array.replicate_zero, List.push_toArray, List.append_toArray, List.nil_append, List.cons_append]
      go_wp2_with (first | ((with_reducible refine gate_dst (N := 2) rfl ?_); refine bx 2 #[.slice A0_0 l0_0.length c0_0, .slice A0_1 l0_1.length c0_1] 25 ?_; intro gb101 hg w25 hbox hb; have BK101 := hbox; have GW101 := gs HB hg; have GE101 := gs HB hg; replace HB := bs HB hb; clear hb hbox hg) | ((with_reducible refine gate_dst (N := 4) rfl ?_); refine bx 4 #[.int .i64 0] 3 ?_; intro gb102 hg w26 hbox hb; have BK102 := hbox; have GW102 := gs HB hg; have GE102 := gs HB hg; replace HB := bs HB hb; have NB101_102 := nl BK101 hg; have NB102_101 := nr BK101 hg; replace BK101 := bb BK101 hb; clear hb hbox hg) | ((with_reducible refine gate_dst (N := 5) rfl ?_); refine bx 5 #[.int .i64 0] 3 ?_; intro gb103 hg w27 hbox hb; have BK103 := hbox; have GW103 := gs HB hg; have GE103 := gs HB hg; replace HB := bs HB hb; have NB101_103 := nl BK101 hg; have NB103_101 := nr BK101 hg; replace BK101 := bb BK101 hb; have NB102_103 := nl BK102 hg; have NB103_102 := nr BK102 hg; replace BK102 := bb BK102 hb; clear hb hbox hg; have hnb28 := NB101_102.out; have hnc28 := NB102_101.out; have hnb29 := NB101_103.out; have hnc29 := NB103_101.out; obtain ⟨_, _, _, _⟩ := cf2 BK101) | ((with_reducible refine gc 62 rfl ?_); refine gL 13 Tryz.func62 #[.agg #[.slice A0_0 l0_0.length c0_0, .slice A0_1 l0_1.length c0_1], .int .i64 a1, .int .i64 0] ?_; (with_reducible refine (turn_open.calls k (fun k_ => k_ < w.heap.size) _ _ l0_0 (fun k_ => k_ < w.heap.size) _ _ l0_1 a1 0 t104 t107 t110 _ ?side1 ?side2 A3.out).mono ?_); (case side1 => exact Kd.V_mk HC0_0.out (Kd.F_below (Kd.C_F k67_heap HR0_0.out) (pE HB))); (case side2 => exact Kd.V_mk HC0_1.out (Kd.F_below (Kd.C_F (Kd.heap_int .i64) HR0_1.out) (pE HB))); rintro e w31 ⟨v105, v108, rfl, ho0, ho1, hb⟩; refine ⟨_, rfl, ?_⟩; have HO106 := Aside0.mk (Kd.V_lower (Kd.V_mono (ok' := fun k_ => k_ ≠ gb101 ∧ k_ ≠ gb102 ∧ k_ ≠ gb103) ho0 (fun k_ hk_ => ⟨Or.elim hk_ (fun hs_ => Or.elim hs_ (fun hs_ => fun e_ => Nat.not_le.2 hs_ (by rw [e_]; exact GW101.out)) (fun hs_ => fun e_ => Nat.not_le.2 hs_ (by rw [e_]; exact GW101.out))) (fun hn_ => (Kd.freshB (g := gb101) (o := .cells #[.slice A0_0 l0_0.length c0_0, .slice A0_1 l0_1.length c0_1] 25 (0, 0)) (pB BK101.out) k_ hn_)), Or.elim hk_ (fun hs_ => Or.elim hs_ (fun hs_ => fun e_ => Nat.not_le.2 hs_ (by rw [e_]; exact GW102.out)) (fun hs_ => fun e_ => Nat.not_le.2 hs_ (by rw [e_]; exact GW102.out))) (fun hn_ => (Kd.freshB (g := gb102) (o := .cells #[.int .i64 0] 3 (0, 0)) (pB BK102.out) k_ hn_)), Or.elim hk_ (fun hs_ => Or.elim hs_ (fun hs_ => fun e_ => Nat.not_le.2 hs_ (by rw [e_]; exact GW103.out)) (fun hs_ => fun e_ => Nat.not_le.2 hs_ (by rw [e_]; exact GW103.out))) (fun hn_ => (Kd.freshB (g := gb103) (o := .cells #[.int .i64 0] 3 (0, 0)) (pB BK103.out) k_ hn_))⟩)) (below_size (pE HB))); have HO109 := Aside0.mk (Kd.V_lower (Kd.V_mono (ok' := fun k_ => k_ ≠ gb101 ∧ k_ ≠ gb102 ∧ k_ ≠ gb103) ho1 (fun k_ hk_ => ⟨Or.elim hk_ (fun hs_ => Or.elim hs_ (fun hs_ => fun e_ => Nat.not_le.2 hs_ (by rw [e_]; exact GW101.out)) (fun hs_ => fun e_ => Nat.not_le.2 hs_ (by rw [e_]; exact GW101.out))) (fun hn_ => (Kd.freshB (g := gb101) (o := .cells #[.slice A0_0 l0_0.length c0_0, .slice A0_1 l0_1.length c0_1] 25 (0, 0)) (pB BK101.out) k_ hn_)), Or.elim hk_ (fun hs_ => Or.elim hs_ (fun hs_ => fun e_ => Nat.not_le.2 hs_ (by rw [e_]; exact GW102.out)) (fun hs_ => fun e_ => Nat.not_le.2 hs_ (by rw [e_]; exact GW102.out))) (fun hn_ => (Kd.freshB (g := gb102) (o := .cells #[.int .i64 0] 3 (0, 0)) (pB BK102.out) k_ hn_)), Or.elim hk_ (fun hs_ => Or.elim hs_ (fun hs_ => fun e_ => Nat.not_le.2 hs_ (by rw [e_]; exact GW103.out)) (fun hs_ => fun e_ => Nat.not_le.2 hs_ (by rw [e_]; exact GW103.out))) (fun hn_ => (Kd.freshB (g := gb103) (o := .cells #[.int .i64 0] 3 (0, 0)) (pB BK103.out) k_ hn_))⟩)) (below_size (pE HB))); replace BK101 := bb BK101 hb; replace BK102 := bb BK102 hb; replace BK103 := bb BK103 hb; replace HB := bs HB hb; clear hb ho0 ho1) | ((with_reducible refine gate_dst (N := 7) rfl ?_); refine bx 7 #[.slice none 0 0, .slice none 0 0] 99 ?_; intro gb111 hg w32 hbox hb; replace HO106 := ve HO106 hg hb; replace HO109 := ve HO109 hg hb; have BK111 := hbox; have GW111 := gs HB hg; have GE111 := gs HB hg; replace HB := bs HB hb; have NB101_111 := nl BK101 hg; have NB111_101 := nr BK101 hg; replace BK101 := bb BK101 hb; have NB102_111 := nl BK102 hg; have NB111_102 := nr BK102 hg; replace BK102 := bb BK102 hb; have NB103_111 := nl BK103 hg; have NB111_103 := nr BK103 hg; replace BK103 := bb BK103 hb; clear hb hbox hg; obtain ⟨Ao33, co33, eo33⟩ := Kd.V_slice HO106.out; subst eo33; have hnb34 := NB111_101.out; have hnc34 := NB101_111.out; have hnb35 := NB111_102.out; have hnc35 := NB102_111.out; have hnb36 := NB111_103.out; have hnc36 := NB103_111.out; obtain ⟨_, _, _, _⟩ := cf2 BK111; obtain ⟨Ao38, co38, eo38⟩ := Kd.V_slice HO109.out; subst eo38; have hnb39 := NB103_102.out; have hnc39 := NB102_103.out; obtain ⟨_, _⟩ := cf1 BK103) | (with_reducible refine regW_lit_ ?_) | gi_step)
      have n0_ : Aside0 (Kd.V k67 67 (((w32.setCell ⟨gb111, 0, none⟩ (.slice Ao33 t104.length co33)).setCell ⟨gb111, 1, none⟩ (.slice Ao38 t107.length co38)).setCell ⟨gb103, 0, none⟩ (.int .i64 (-1))) w.heap.size (fun k_ => k_ ≠ gb101 ∧ k_ ≠ gb102 ∧ k_ ≠ gb103 ∧ k_ ≠ gb111) (.slice Ao33 t104.length co33) t104) := ⟨by (with_reducible repeat (first | apply Kd.V_alloc | apply Kd.V_drewN | apply Kd.V_drew)); exact Kd.V_mono (Kd.V_far (p := ⟨gb103, 0, none⟩) (Kd.V_far (p := ⟨gb111, 1, none⟩) (Kd.V_far (p := ⟨gb111, 0, none⟩) (Kd.V_mono (Kd.V_mono HO106.out (fun k_ hk => (⟨hk, hk.2⟩ : _ ∧ k_ ≠ gb111))) (fun k_ hk => (⟨hk, hk.1.1.2.2⟩ : _ ∧ k_ ≠ gb103))) (fun _ hk => hk.1.2) (.slice Ao33 t104.length co33)) (fun _ hk => hk.1.2) (.slice Ao38 t107.length co38)) (fun _ hk => hk.2) (.int .i64 (-1))) (fun _ hk => ⟨hk.1.1.1.1, ⟨hk.1.1.1.2.1, ⟨hk.1.1.1.2.2, hk.1.1.2⟩⟩⟩)⟩
      have n1_ : Aside0 (Kd.V (Kd.int .i64) 3 (((w32.setCell ⟨gb111, 0, none⟩ (.slice Ao33 t104.length co33)).setCell ⟨gb111, 1, none⟩ (.slice Ao38 t107.length co38)).setCell ⟨gb103, 0, none⟩ (.int .i64 (-1))) w.heap.size (fun k_ => k_ ≠ gb101 ∧ k_ ≠ gb102 ∧ k_ ≠ gb103 ∧ k_ ≠ gb111) (.slice Ao38 t107.length co38) t107) := ⟨by (with_reducible repeat (first | apply Kd.V_alloc | apply Kd.V_drewN | apply Kd.V_drew)); exact Kd.V_mono (Kd.V_far (p := ⟨gb103, 0, none⟩) (Kd.V_far (p := ⟨gb111, 1, none⟩) (Kd.V_far (p := ⟨gb111, 0, none⟩) (Kd.V_mono (Kd.V_mono HO109.out (fun k_ hk => (⟨hk, hk.2⟩ : _ ∧ k_ ≠ gb111))) (fun k_ hk => (⟨hk, hk.1.1.2.2⟩ : _ ∧ k_ ≠ gb103))) (fun _ hk => hk.1.2) (.slice Ao33 t104.length co33)) (fun _ hk => hk.1.2) (.slice Ao38 t107.length co38)) (fun _ hk => hk.2) (.int .i64 (-1))) (fun _ hk => ⟨hk.1.1.1.1, ⟨hk.1.1.1.2.1, ⟨hk.1.1.1.2.2, hk.1.1.2⟩⟩⟩)⟩
      have n2_ : Aside0 ((((w32.setCell ⟨gb111, 0, none⟩ (.slice Ao33 t104.length co33)).setCell ⟨gb111, 1, none⟩ (.slice Ao38 t107.length co38)).setCell ⟨gb103, 0, none⟩ (.int .i64 (-1))).heap[gb101]? = some (.cells #[.slice A0_0 l0_0.length c0_0, .slice A0_1 l0_1.length c0_1] 25 (0, 0))) := ⟨pF BK101⟩
      have n3_ : Aside0 ((((w32.setCell ⟨gb111, 0, none⟩ (.slice Ao33 t104.length co33)).setCell ⟨gb111, 1, none⟩ (.slice Ao38 t107.length co38)).setCell ⟨gb103, 0, none⟩ (.int .i64 (-1))).heap[gb102]? = some (.cells #[.int .i64 0] 3 (0, 0))) := ⟨pF BK102⟩
      have n4_ : Aside0 ((((w32.setCell ⟨gb111, 0, none⟩ (.slice Ao33 t104.length co33)).setCell ⟨gb111, 1, none⟩ (.slice Ao38 t107.length co38)).setCell ⟨gb103, 0, none⟩ (.int .i64 (-1))).heap[gb103]? = some (.cells #[.int .i64 (-1)] 3 (0, 0))) := ⟨by refine pB ?_; refine blk_put (cs := #[.int .i64 0]) ?_ 0 _ rfl; refine pB ?_; refine blk_far ?_ NB103_111.out _; refine pB ?_; refine blk_far ?_ NB103_111.out _; exact pB BK103.out⟩
      have n5_ : Aside0 ((((w32.setCell ⟨gb111, 0, none⟩ (.slice Ao33 t104.length co33)).setCell ⟨gb111, 1, none⟩ (.slice Ao38 t107.length co38)).setCell ⟨gb103, 0, none⟩ (.int .i64 (-1))).heap[gb111]? = some (.cells #[.slice Ao33 t104.length co33, .slice Ao38 t107.length co38] 99 (0, 0))) := ⟨by refine pB ?_; refine blk_far ?_ NB111_103.out _; refine pB ?_; refine blk_put (cs := #[.slice Ao33 t104.length co33, .slice none 0 0]) ?_ 1 _ rfl; refine pB ?_; refine blk_put (cs := #[.slice none 0 0, .slice none 0 0]) ?_ 0 _ rfl; exact pB BK111.out⟩
      have n6_ : Aside0 (Below w.heap.size w (((w32.setCell ⟨gb111, 0, none⟩ (.slice Ao33 t104.length co33)).setCell ⟨gb111, 1, none⟩ (.slice Ao38 t107.length co38)).setCell ⟨gb103, 0, none⟩ (.int .i64 (-1)))) := ⟨pE HB⟩
      (try clear HO106)
      (try clear HO109)
      (try clear BK101)
      (try clear BK102)
      (try clear BK103)
      (try clear BK111)
      (try clear HB)
      generalize (((w32.setCell ⟨gb111, 0, none⟩ (.slice Ao33 t104.length co33)).setCell ⟨gb111, 1, none⟩ (.slice Ao38 t107.length co38)).setCell ⟨gb103, 0, none⟩ (.int .i64 (-1))) = w41 at n0_ n1_ n2_ n3_ n4_ n5_ n6_ ⊢
      have HO106 := n0_
      have HO109 := n1_
      have BK101 := n2_
      have BK102 := n3_
      have BK103 := n4_
      have BK111 := n5_
      have HB := n6_
      clear n0_ n1_ n2_ n3_ n4_ n5_ n6_
      replace HO106 := Aside0.mk (Kd.V_drew HO106.out)
      replace HO109 := Aside0.mk (Kd.V_drew HO109.out)
      replace BK101 := Aside0.mk (blk_drew BK101.out)
      replace BK102 := Aside0.mk (blk_drew BK102.out)
      replace BK103 := Aside0.mk (blk_drew BK103.out)
      replace BK111 := Aside0.mk (blk_drew BK111.out)
      replace HB := Aside0.mk (below_drew1 HB.out)
      refine wpIn_wide.2 (start_ (n := 5) (S := fun w' => w'.cell? ⟨gb111, 0, none⟩ = some (.slice Ao33 t104.length co33) ∧ w'.cell? ⟨gb111, 1, none⟩ = some (.slice Ao38 t107.length co38)) (ds := []) #[false, false, false, false, false] (by kernel_rfl) rfl rfl ⟨(blk_cell BK111.out 0).trans rfl, (blk_cell BK111.out 1).trans rfl⟩ (fun hHeld => ?_))
      generalize w41.drew = w42 at HO106 HO109 BK101 BK102 BK103 BK111 HB hHeld ⊢
      refine pu 3 29 ?_ (hQ := (fun c_ a_ w_ h_ => HQP.out c_ _ a_ w_ (by rfl) h_))
      refine tk 0 26 hHeld ?_ (hQ := (fun c_ a_ w_ h_ => HQP.out c_ _ a_ w_ (by rfl) h_))
      refine tk 1 27 hHeld ?_ (hQ := (fun c_ a_ w_ h_ => HQP.out c_ _ a_ w_ (by rfl) h_))
      refine on 2 (fun K hK => ?_)
      refine gO Tryz.func63 #[.agg #[.slice Ao33 t104.length co33, .slice Ao38 t107.length co38]] ?_
      with_reducible refine (turn_day_order.calls k _ _ t104 _ _ t107 t112 _ ?side1 ?side2 ?side3 ?side4 A23.out).mono ?_
      (case side1 => exact pC (Kd.V_reads' HO106.out).2.2)
      (case side2 => exact (Kd.V_reads' HO106.out).2.1)
      (case side3 => exact pC (Kd.V_reads' HO109.out).2.2)
      (case side4 => exact (Kd.V_reads' HO109.out).2.1)
      rintro e w43 ⟨v113, rfl, ho0, hb⟩
      refine ⟨_, rfl, ?_⟩
      replace HO106 := Aside0.mk (Kd.V_elder' (pV HO106.out) (Kd.R_base ho0) hb)
      replace HO109 := Aside0.mk (Kd.V_elder' (pV HO109.out) (Kd.R_base ho0) hb)
      have HO114 := Aside0.mk (Kd.R_lower (Kd.R_newB (Kd.R_newB ho0 (g := gb102) (o := .cells #[.int .i64 0] 3 (0, 0)) (pB BK102.out)) (g := gb103) (o := .cells #[.int .i64 (-1)] 3 (0, 0)) (pB BK103.out)) (below_size (pE HB)))
      replace BK101 := bb BK101 hb
      replace BK102 := bb BK102 hb
      replace BK103 := bb BK103 hb
      replace BK111 := bb BK111 hb
      replace HB := bs HB hb
      (try clear hb)
      (try clear hb2)
      (try clear hk)
      (try clear hi)
      (try clear ho0)
      obtain ⟨Ao44, co44, eo44⟩ := Kd.R_slice HO114.out
      (first | subst eo44 | (injection eo44 with f1_ f2_ f3_; have f4_ := f1_.symm; have f5_ := f3_.symm; clear f1_ f2_ f3_; subst f4_; subst f5_))
      refine hK.out _ _ ⟨(blk_cell BK111.out 0).trans rfl, (blk_cell BK111.out 1).trans rfl⟩ (fun hHeld => ?_)
      clear hK K
      refine norm_ (a' := ?_) ?_ ?_
      rotate_left
      · show Act.put _ (some 28) _ = _
        simp only [Act.put, List.setIfInBounds_toArray, List.set_cons_zero, List.set_cons_succ, i64_w, i32_w]
        rfl
      refine on 4 (fun K hK => ?_)
      have Q106 := HO106
      have Q109 := HO109
      have Q114 := HO114
      have LT102 := Aside0.mk (Array.getElem?_eq_some_iff.1 BK102.out).1
      have LT103 := Aside0.mk (Array.getElem?_eq_some_iff.1 BK103.out).1
      refine gO Tryz.func68 #[.agg #[.slice Ao33 t104.length co33, .slice Ao38 t107.length co38], .slice Ao44 t112.length co44, .int .i64 a1] ?_
      refine (waits_calls Ao33 t104.length co33 Ao38 t107.length co38 Ao44 t112.length co44 a1 _).mono ?_
      rintro e w45 ⟨rfl, hw_⟩
      have HW_ := Aside0.mk hw_
      have hb : Below w43.heap.size w43 w45 := by rw [hw_]; exact (three_alloc _ _ _ _).1
      clear hw_
      refine ⟨_, rfl, ?_⟩
      replace HO106 := vb HO106 hb
      replace HO109 := vb HO109 hb
      replace HO114 := rb HO114 hb
      replace BK101 := bb BK101 hb
      replace BK102 := bb BK102 hb
      replace BK103 := bb BK103 hb
      replace BK111 := bb BK111 hb
      replace HB := bs HB hb
      (try clear hb)
      (try clear hb2)
      (try clear hk)
      (try clear hi)
      refine hK.out _ _ ⟨(blk_cell BK111.out 0).trans rfl, (blk_cell BK111.out 1).trans rfl⟩ (fun hHeld => ?_)
      clear hK K
      refine norm_ (a' := ?_) ?_ ?_
      rotate_left
      · show Act.put _ (some 30) _ = _
        simp only [Act.put, List.setIfInBounds_toArray, List.set_cons_zero, List.set_cons_succ, i64_w, i32_w]
        rfl
      refine done_ (by kernel_rfl) ?_
      go_wp2_with (first | (with_reducible refine regW_lit_ ?_) | gi_step)
      try simp only [Act.put, List.setIfInBounds_toArray, List.set_cons_zero, List.set_cons_succ]
      obtain ⟨hok_, hz_⟩ := waitsO_spec A24.out
      obtain ⟨hm1, hm2, hin⟩ := okT_spec hok_
      obtain ⟨m, rfl⟩ : ∃ m : Nat, a1 = (m : Int) := ⟨(a1 : Int).toNat, by omega⟩
      obtain ⟨q1, q2, hseq⟩ := waits_made m Ao44 co44 t112 Ao33 co33 t104 Ao38 co38 t107 4 w43 w45 (fun k => k = gb102 ∨ k = gb103) (fun k hk => hk.elim (fun e => e ▸ LT102.out) (fun e => e ▸ LT103.out)) (by omega) (by omega) hin HW_.out (fun W' hsz hsame => ⟨(Kd.R_reads' (Kd.R_step Q114.out (fun k hk hlt => hsame k hlt (fun e => e.elim hk.1.2 hk.2)))).2.2, (Kd.V_reads' (Kd.V_step Q106.out (fun k hk hlt => hsame k hlt (fun e => e.elim hk.1.2.1 hk.1.2.2.1)))).2.2⟩)
      generalize hxs : waitsL t104 t112 (m : Int) = xs at hseq hz_
      have L2 : gb102 < w45.heap.size := (Array.getElem?_eq_some_iff.1 BK102.out).1
      have L3 : gb103 < w45.heap.size := (Array.getElem?_eq_some_iff.1 BK103.out).1
      have hx2 := BK102.out
      have hx3 := BK103.out
      have hb5 := HB.out
      have hnb := NB102_103.out
      have G2 := GW102.out
      have G3 := GW103.out
      have hsz0 : w.heap.size ≤ w45.heap.size := hb5.size
      have HZ := Aside0.mk hz_
      have Q2 := Aside0.mk q2
      clear hz_ q2 hxs hin hok_
      refine range_outer (xs := xs) (Rv := RvW) (Ex := fun k => k = gb102 ∨ k = gb103) (c := 8) (E := fun _ => True) (w0 := w45) rfl (fun h0 => by cases h0) (gf := 101) rfl trivial (fun args w => enters_ Tryz.func101 (by kernel_rfl) rfl args w) hseq (Below.refl _ _) (fun x vs W h => by unfold RvW at h; subst h; rfl)
        (fun i W' => W'.heap[gb102]? = some (.cells #[.int .i64 ((xs.take i).foldl worstW (0, -1)).1] 3 (0, 0)) ∧ W'.heap[gb103]? = some (.cells #[.int .i64 ((xs.take i).foldl worstW (0, -1)).2] 3 (0, 0)) ∧ Below w.heap.size w W')
        (fun cd i W' => False)
        ?hI ?hIx ⟨hx2, hx3, hb5⟩
        (fun i x a' W' => a' = { tmps := #[.agg #[.slice A0_0 l0_0.length c0_0, .slice A0_1 l0_1.length c0_1], .int .i64 (m : Int), .pointer (some ⟨gb101, 0, none⟩), undef, .pointer (some ⟨gb102, 0, none⟩), .pointer (some ⟨gb103, 0, none⟩), .int .i64 t110, .pointer (some ⟨gb111, 0, none⟩), .int .i64 x.1, .int .i64 x.2,
            .tuple #[.agg #[.slice Ao33 t104.length co33, .slice Ao38 t107.length co38], .int .i64 t110], .agg #[.slice A0_0 l0_0.length c0_0, .slice A0_1 l0_1.length c0_1], .int .i64 (m : Int), .tuple #[.agg #[.slice Ao33 t104.length co33, .slice Ao38 t107.length co38], .int .i64 t110], .agg #[.slice Ao33 t104.length co33, .slice Ao38 t107.length co38], .int .i64 t110,
            .bool false, .int .i64 t110, .bool false, undef, .bool false, .pointer (some ⟨gb111, 0, none⟩), .pointer (some ⟨gb111, 0, none⟩), .slice Ao33 t104.length co33, .int .i64 (t104.length : Int), .bool false, .agg #[.slice Ao33 t104.length co33, .slice Ao38 t107.length co38], .agg #[.slice Ao33 t104.length co33, .slice Ao38 t107.length co38], .slice Ao44 t112.length co44, .int .i64 (m : Int),
            .func (.func 101) #[] #[.pointer (some ⟨w43.heap.size, 0, none⟩), .pointer (some ⟨w43.heap.size + 1, 0, none⟩), .pointer (some ⟨w43.heap.size + 2, 0, none⟩)], .int .i64 x.1, .int .i64 x.2, undef, undef, undef, undef, undef, undef, undef], defers := [] } ∧
          W'.heap[gb102]? = some (.cells #[.int .i64 ((xs.take i).foldl worstW (0, -1)).1] 3 (0, 0)) ∧ W'.heap[gb103]? = some (.cells #[.int .i64 ((xs.take i).foldl worstW (0, -1)).2] 3 (0, 0)) ∧ Below w.heap.size w W')
        ?hAx ?assign ?body ?done ?stop
      case hI => exact fun i X Y ⟨h1, h2, h3⟩ hs => ⟨hs.same _ _ h1 (by omega) (fun _ => rfl), hs.same _ _ h2 (by omega) (fun _ => rfl), Below_istep_ h3 (Nat.le_refl _) hs (by omega) (by omega)⟩
      case hIx => exact fun cd i X Y h hs => h
      case hAx => exact fun i x a' _ X Y ⟨h0, h1, h2, h3⟩ hs => ⟨h0, hs.same _ _ h1 (by omega) (fun _ => rfl), hs.same _ _ h2 (by omega) (fun _ => rfl), Below_istep_ h3 (Nat.le_refl _) hs (by omega) (by omega)⟩
      case assign =>
        rintro l' i x vs W' K hx hi hv hsz hK
        unfold RvW at hv
        subst hv
        simp only [List.zip_toArray, List.zip_cons_cons, List.zip_nil_right, List.zip_nil_left, List.size_toArray, List.foldl_toArray', List.foldl_cons, List.foldl_nil, List.setIfInBounds_toArray, List.set_cons_zero, List.set_cons_succ, List.length_cons, List.length_nil]
        have Hi := Aside0.mk hi
        have HK := Aside0.mk hK
        clear hseq hi hK hx2 hx3 hb5
        go_wp2_with (first | ((with_reducible refine regIn_lit_ ?hnd ?hlo ?_); (case hnd => kernel_rfl); (case hlo => rintro ⟨_, _, h⟩; exact h)) | gi_step)
        exact HK.out _ _ (Below.refl _ _) ⟨rfl, Hi.out⟩
      case body =>
        rintro l' i x a' W' hl' hloop hx ⟨rfl, h1, h2, h3⟩ hsz
        obtain ⟨hlt, hxe⟩ := List.getElem?_eq_some_iff.1 hx
        have htk : (xs.take (i + 1)).foldl worstW (0, -1) = worstW ((xs.take i).foldl worstW (0, -1)) x := by rw [List.take_succ_eq_append_getElem hlt, hxe, List.foldl_append]; rfl
        obtain ⟨z, hz⟩ : ∃ z, (xs.take i).foldl worstW (0, -1) = z := ⟨_, rfl⟩
        rw [hz] at h1 h2 htk
        have HTK := Aside0.mk htk
        have hc2 : W'.cell? ⟨gb102, 0, none⟩ = some (.int .i64 z.1) := (blk_cell h1 0).trans rfl
        have hc3 : W'.cell? ⟨gb103, 0, none⟩ = some (.int .i64 z.2) := (blk_cell h2 0).trans rfl
        have hf2 := blk_frozen h1 0
        have hf3 := blk_frozen h2 0
        have H1 := Aside0.mk h1
        have H2 := Aside0.mk h2
        have H3 := Aside0.mk h3
        have HSZ := Aside0.mk hsz
        have hnb' := NB103_102.out
        clear hseq h1 h2 h3 hx2 hx3 hb5 hx hxe hlt htk hz hloop hl' hsz
        by_cases hc : x.2 > z.2
        · have hcb : decide (x.2 > z.2) = true := decide_eq_true hc
          have HTX := Aside0.mk (HTK.out.trans (if_pos hc : worstW z x = x))
          clear hc
          go_wp2_with (first | ((with_reducible refine regIn_lit_ ?hnd ?hlo ?_); (case hnd => kernel_rfl); (case hlo => rintro ⟨_, _, h⟩; exact h)) | gi_step)
          have e1 : (W'.setCell ⟨gb102, 0, none⟩ (.int .i64 x.1)).heap[gb102]? = some (.cells #[.int .i64 x.1] 3 (0, 0)) := blk_put (cs := #[.int .i64 z.1]) H1.out 0 _ rfl
          have e2 : (W'.setCell ⟨gb102, 0, none⟩ (.int .i64 x.1)).heap[gb103]? = some (.cells #[.int .i64 z.2] 3 (0, 0)) := (Below.heap_setCell _ _ _ gb103 hnb').trans H2.out
          refine ⟨BKeep.trans (BKeep.of_block gb102 (by simp [World.setCell]) (fun k _ hne => Below.heap_setCell _ _ _ k hne) ⟨_, H1.out, rfl⟩ (fun _ => .inl rfl) (fun hh => by have := hh.1; omega)) (BKeep.of_block gb103 (by simp [World.setCell]) (fun k _ hne => Below.heap_setCell _ _ _ k hne) ⟨_, e2, rfl⟩ (fun _ => .inr rfl) (fun hh => by have := hh.1; omega)), ?_, ?_, ?_⟩
          · rw [HTX.out]; exact (Below.heap_setCell _ _ _ gb102 hnb).trans e1
          · rw [HTX.out]; exact blk_put (cs := #[.int .i64 z.2]) e2 0 _ rfl
          · exact (H3.out.setCell (p := ⟨gb102, 0, none⟩) (show w.heap.size ≤ gb102 from G2) _).setCell (p := ⟨gb103, 0, none⟩) (show w.heap.size ≤ gb103 from G3) _
        · have hcb : decide (x.2 > z.2) = false := decide_eq_false hc
          have HTX := Aside0.mk (HTK.out.trans (if_neg hc : worstW z x = z))
          clear hc
          go_wp2_with (first | ((with_reducible refine regIn_lit_ ?hnd ?hlo ?_); (case hnd => kernel_rfl); (case hlo => rintro ⟨_, _, h⟩; exact h)) | gi_step)
          exact ⟨BKeep.refl _ _ _ _ _ _, by rw [HTX.out]; exact H1.out, by rw [HTX.out]; exact H2.out, H3.out⟩
      case done =>
        rintro D W' hD ⟨h1, h2, h3⟩ hmk
        rw [List.take_length, HZ.out] at h1 h2
        have hk0 : W'.drew.heap[D]? = some (.deferred (some [])) := hmk
        have g1 := blk_drew h1
        have g2 := blk_drew h2
        have g3 := below_drew1 h3
        have HD := Aside0.mk hD
        have hnb' := NB103_102.out
        clear hseq h1 h2 h3 hx2 hx3 hb5 hD hmk
        simp only [Exit.inBlock, Exit.then]
        gi_wp2
        refine wpIn_wide.2 (start_ (n := 5) (S := fun w' => w'.cell? ⟨gb102, 0, none⟩ = some (.int .i64 t115.1) ∧ w'.cell? ⟨gb103, 0, none⟩ = some (.int .i64 t115.2)) (ds := []) #[false, false, false, false, false] (by kernel_rfl) rfl rfl ⟨(blk_cell g1 0).trans rfl, (blk_cell g2 0).trans rfl⟩ (fun hHeld => ?_))
        generalize W'.drew = w60 at hk0 g1 g2 g3 hHeld ⊢
        refine tk 0 38 hHeld ?_ (hQ := (fun c_ a_ w_ h_ => HQP.out c_ _ a_ w_ (by rfl) h_))
        refine tk 1 39 hHeld ?_ (hQ := (fun c_ a_ w_ h_ => HQP.out c_ _ a_ w_ (by rfl) h_))
        have hc2 : w60.cell? ⟨gb102, 0, none⟩ = some (.int .i64 t115.1) := (blk_cell g1 0).trans rfl
        have hf2 := blk_frozen g1 0
        refine on 2 (fun K hK => ?_)
        refine skip_ (w1 := ?_) (by rfl) rfl ?_ ?_
        rotate_left
        · go_simp
          rfl
        have e1 : (w60.setCell ⟨gb102, 0, none⟩ (.int .i64 t115.1)).heap[gb102]? = some (.cells #[.int .i64 t115.1] 3 (0, 0)) := blk_put (cs := #[.int .i64 t115.1]) g1 0 _ rfl
        have e2 : (w60.setCell ⟨gb102, 0, none⟩ (.int .i64 t115.1)).heap[gb103]? = some (.cells #[.int .i64 t115.2] 3 (0, 0)) := (Below.heap_setCell _ _ _ gb103 hnb').trans g2
        have e3 : Below w.heap.size w (w60.setCell ⟨gb102, 0, none⟩ (.int .i64 t115.1)) := g3.setCell (p := ⟨gb102, 0, none⟩) (show w.heap.size ≤ gb102 from G2) _
        have e4 : (w60.setCell ⟨gb102, 0, none⟩ (.int .i64 t115.1)).heap[D]? = some (.deferred (some [])) := (Below.heap_setCell _ _ _ D (by have := HD.out; show D ≠ gb102; omega)).trans hk0
        refine hK.out _ _ ⟨(blk_cell e1 0).trans rfl, (blk_cell e2 0).trans rfl⟩ (fun hHeld => ?_)
        clear hK K hc2 hf2
        generalize w60.setCell ⟨gb102, 0, none⟩ (.int .i64 t115.1) = w61 at e1 e2 e3 e4 hHeld ⊢
        clear hk0 g1 g2 g3
        have hc3 : w61.cell? ⟨gb103, 0, none⟩ = some (.int .i64 t115.2) := (blk_cell e2 0).trans rfl
        have hf3 := blk_frozen e2 0
        refine on 3 (fun K hK => ?_)
        refine skip_ (w1 := ?_) (by rfl) rfl ?_ ?_
        rotate_left
        · go_simp
          rfl
        have g1 : (w61.setCell ⟨gb103, 0, none⟩ (.int .i64 t115.2)).heap[gb102]? = some (.cells #[.int .i64 t115.1] 3 (0, 0)) := (Below.heap_setCell _ _ _ gb102 hnb).trans e1
        have g2 : (w61.setCell ⟨gb103, 0, none⟩ (.int .i64 t115.2)).heap[gb103]? = some (.cells #[.int .i64 t115.2] 3 (0, 0)) := blk_put (cs := #[.int .i64 t115.2]) e2 0 _ rfl
        have g3 : Below w.heap.size w (w61.setCell ⟨gb103, 0, none⟩ (.int .i64 t115.2)) := e3.setCell (p := ⟨gb103, 0, none⟩) (show w.heap.size ≤ gb103 from G3) _
        have g4 : (w61.setCell ⟨gb103, 0, none⟩ (.int .i64 t115.2)).heap[D]? = some (.deferred (some [])) := (Below.heap_setCell _ _ _ D (by have := HD.out; show D ≠ gb103; omega)).trans e4
        refine hK.out _ _ ⟨(blk_cell g1 0).trans rfl, (blk_cell g2 0).trans rfl⟩ (fun hHeld => ?_)
        clear hK K hc3 hf3
        generalize w61.setCell ⟨gb103, 0, none⟩ (.int .i64 t115.2) = w62 at g1 g2 g3 g4 hHeld ⊢
        clear e1 e2 e3 e4
        refine pu 4 6 ?_ (hQ := (fun c_ a_ w_ h_ => HQP.out c_ _ a_ w_ (by rfl) h_))
        refine done_ (by kernel_rfl) ?_
        have HG1 := Aside0.mk g1
        have HG2 := Aside0.mk g2
        clear hHeld
        gi_wp2
        refine HQF.out _ _ _ (fun c h => by cases h) ?_
        refine Marks.leaves (lo := w45.heap.size) (Ds := [D]) (.cons g4 HD.out (fun E hE => by cases hE) (.nil _)) fun W2 hs => ⟨.tuple #[.int .i64 t115.1, .int .i64 t115.2, .int .i64 0], ?res, rfl, Below_istep_ g3 (Nat.le_refl _) hs (by omega) (by omega)⟩
        exact results_cct (p := 4) (q := 5) (u := 6) (g1 := gb102) (g2 := gb103) rfl rfl rfl rfl (hs.same gb102 _ HG1.out (by omega) (fun _ => rfl)) (hs.same gb103 _ HG2.out (by omega) (fun _ => rfl)) Tryz.underlying3
      case stop =>
        rintro D cd i W' hD hi h hmk
        exact h.elim
  · rw [if_neg c4] at H
    have c4b0 : (t110 == 0) = false := beq_eq_false_iff_ne.mpr c4
    have c4b1 : (t110 != 0) = true := bne_iff_ne.mpr c4
    simp only [Option.some.injEq, Prod.mk.injEq] at H
    obtain ⟨rfl, rfl, rfl⟩ := H
    go_enter Tryz.func26, Tryz.ntmps26
    go_wp2_with (first | ((with_reducible refine gate_dst (N := 2) rfl ?_); refine bx 2 #[.slice A0_0 l0_0.length c0_0, .slice A0_1 l0_1.length c0_1] 25 ?_; intro gb101 hg w48 hbox hb; have BK101 := hbox; have GW101 := gs HB hg; have GE101 := gs HB hg; replace HB := bs HB hb; clear hb hbox hg) | ((with_reducible refine gate_dst (N := 4) rfl ?_); refine bx 4 #[.int .i64 0] 3 ?_; intro gb102 hg w49 hbox hb; have BK102 := hbox; have GW102 := gs HB hg; have GE102 := gs HB hg; replace HB := bs HB hb; have NB101_102 := nl BK101 hg; have NB102_101 := nr BK101 hg; replace BK101 := bb BK101 hb; clear hb hbox hg) | ((with_reducible refine gate_dst (N := 5) rfl ?_); refine bx 5 #[.int .i64 0] 3 ?_; intro gb103 hg w50 hbox hb; have BK103 := hbox; have GW103 := gs HB hg; have GE103 := gs HB hg; replace HB := bs HB hb; have NB101_103 := nl BK101 hg; have NB103_101 := nr BK101 hg; replace BK101 := bb BK101 hb; have NB102_103 := nl BK102 hg; have NB103_102 := nr BK102 hg; replace BK102 := bb BK102 hb; clear hb hbox hg; have hnb51 := NB101_102.out; have hnc51 := NB102_101.out; have hnb52 := NB101_103.out; have hnc52 := NB103_101.out; obtain ⟨_, _, _, _⟩ := cf2 BK101) | ((with_reducible refine gc 62 rfl ?_); refine gL 13 Tryz.func62 #[.agg #[.slice A0_0 l0_0.length c0_0, .slice A0_1 l0_1.length c0_1], .int .i64 a1, .int .i64 0] ?_; (with_reducible refine (turn_open.calls k (fun k_ => k_ < w.heap.size) _ _ l0_0 (fun k_ => k_ < w.heap.size) _ _ l0_1 a1 0 t104 t107 t110 _ ?side1 ?side2 A3.out).mono ?_); (case side1 => exact Kd.V_mk HC0_0.out (Kd.F_below (Kd.C_F k67_heap HR0_0.out) (pE HB))); (case side2 => exact Kd.V_mk HC0_1.out (Kd.F_below (Kd.C_F (Kd.heap_int .i64) HR0_1.out) (pE HB))); rintro e w54 ⟨v105, v108, rfl, ho0, ho1, hb⟩; refine ⟨_, rfl, ?_⟩; have HO106 := Aside0.mk (Kd.V_lower (Kd.V_mono (ok' := fun k_ => k_ ≠ gb101 ∧ k_ ≠ gb102 ∧ k_ ≠ gb103) ho0 (fun k_ hk_ => ⟨Or.elim hk_ (fun hs_ => Or.elim hs_ (fun hs_ => fun e_ => Nat.not_le.2 hs_ (by rw [e_]; exact GW101.out)) (fun hs_ => fun e_ => Nat.not_le.2 hs_ (by rw [e_]; exact GW101.out))) (fun hn_ => (Kd.freshB (g := gb101) (o := .cells #[.slice A0_0 l0_0.length c0_0, .slice A0_1 l0_1.length c0_1] 25 (0, 0)) (pB BK101.out) k_ hn_)), Or.elim hk_ (fun hs_ => Or.elim hs_ (fun hs_ => fun e_ => Nat.not_le.2 hs_ (by rw [e_]; exact GW102.out)) (fun hs_ => fun e_ => Nat.not_le.2 hs_ (by rw [e_]; exact GW102.out))) (fun hn_ => (Kd.freshB (g := gb102) (o := .cells #[.int .i64 0] 3 (0, 0)) (pB BK102.out) k_ hn_)), Or.elim hk_ (fun hs_ => Or.elim hs_ (fun hs_ => fun e_ => Nat.not_le.2 hs_ (by rw [e_]; exact GW103.out)) (fun hs_ => fun e_ => Nat.not_le.2 hs_ (by rw [e_]; exact GW103.out))) (fun hn_ => (Kd.freshB (g := gb103) (o := .cells #[.int .i64 0] 3 (0, 0)) (pB BK103.out) k_ hn_))⟩)) (below_size (pE HB))); have HO109 := Aside0.mk (Kd.V_lower (Kd.V_mono (ok' := fun k_ => k_ ≠ gb101 ∧ k_ ≠ gb102 ∧ k_ ≠ gb103) ho1 (fun k_ hk_ => ⟨Or.elim hk_ (fun hs_ => Or.elim hs_ (fun hs_ => fun e_ => Nat.not_le.2 hs_ (by rw [e_]; exact GW101.out)) (fun hs_ => fun e_ => Nat.not_le.2 hs_ (by rw [e_]; exact GW101.out))) (fun hn_ => (Kd.freshB (g := gb101) (o := .cells #[.slice A0_0 l0_0.length c0_0, .slice A0_1 l0_1.length c0_1] 25 (0, 0)) (pB BK101.out) k_ hn_)), Or.elim hk_ (fun hs_ => Or.elim hs_ (fun hs_ => fun e_ => Nat.not_le.2 hs_ (by rw [e_]; exact GW102.out)) (fun hs_ => fun e_ => Nat.not_le.2 hs_ (by rw [e_]; exact GW102.out))) (fun hn_ => (Kd.freshB (g := gb102) (o := .cells #[.int .i64 0] 3 (0, 0)) (pB BK102.out) k_ hn_)), Or.elim hk_ (fun hs_ => Or.elim hs_ (fun hs_ => fun e_ => Nat.not_le.2 hs_ (by rw [e_]; exact GW103.out)) (fun hs_ => fun e_ => Nat.not_le.2 hs_ (by rw [e_]; exact GW103.out))) (fun hn_ => (Kd.freshB (g := gb103) (o := .cells #[.int .i64 0] 3 (0, 0)) (pB BK103.out) k_ hn_))⟩)) (below_size (pE HB))); replace BK101 := bb BK101 hb; replace BK102 := bb BK102 hb; replace BK103 := bb BK103 hb; replace HB := bs HB hb; clear hb ho0 ho1) | ((with_reducible refine gate_dst (N := 7) rfl ?_); refine bx 7 #[.slice none 0 0, .slice none 0 0] 99 ?_; intro gb111 hg w55 hbox hb; replace HO106 := ve HO106 hg hb; replace HO109 := ve HO109 hg hb; have BK111 := hbox; have GW111 := gs HB hg; have GE111 := gs HB hg; replace HB := bs HB hb; have NB101_111 := nl BK101 hg; have NB111_101 := nr BK101 hg; replace BK101 := bb BK101 hb; have NB102_111 := nl BK102 hg; have NB111_102 := nr BK102 hg; replace BK102 := bb BK102 hb; have NB103_111 := nl BK103 hg; have NB111_103 := nr BK103 hg; replace BK103 := bb BK103 hb; clear hb hbox hg; obtain ⟨Ao56, co56, eo56⟩ := Kd.V_slice HO106.out; subst eo56; have hnb57 := NB111_101.out; have hnc57 := NB101_111.out; have hnb58 := NB111_102.out; have hnc58 := NB102_111.out; have hnb59 := NB111_103.out; have hnc59 := NB103_111.out; obtain ⟨_, _, _, _⟩ := cf2 BK111; obtain ⟨Ao61, co61, eo61⟩ := Kd.V_slice HO109.out; subst eo61; have hnb62 := NB102_103.out; have hnc62 := NB103_102.out; obtain ⟨_, _⟩ := cf1 BK102; obtain ⟨_, _⟩ := cf1 BK103))
    refine bodyPost_ret (results_cct (p := 4) (q := 5) (u := 6) (g1 := gb102) (g2 := gb103) (x := 0) (y := 0) rfl rfl rfl rfl (by refine pB ?_; refine blk_far ?_ NB102_103.out _; refine pB ?_; refine blk_put (cs := #[.int .i64 0]) ?_ 0 _ rfl; refine pB ?_; refine blk_far ?_ NB102_111.out _; refine pB ?_; refine blk_far ?_ NB102_111.out _; exact pB BK102.out) (by refine pB ?_; refine blk_put (cs := #[.int .i64 0]) ?_ 0 _ rfl; refine pB ?_; refine blk_far ?_ NB103_102.out _; refine pB ?_; refine blk_far ?_ NB103_111.out _; refine pB ?_; refine blk_far ?_ NB103_111.out _; exact pB BK103.out) Tryz.underlying3) rfl ?_
    exact ⟨eT, pE HB⟩
end Go.Proofs.YtlmglnobdcgbeaaGreat.P
namespace Go.Proofs.YtlmglnobdcgbeaaGreat.P
open Go.RowKit Go.Proofs.YtlmglnobdcgbeaaGreatW.PrintWords Go.Proofs.YtlmglnobdcgbeaaGreatW.PrintLast Go.Proofs.YtlmglnobdcgbeaaGreatW.PrintMore
attribute [local go_sem] max2_int min2_int max_two min_two max_three min_three max_four min_four
def turn_Order.f (k : Nat) (l0_0 : List (S67)) (l0_1 : List Int) : Option (List Int × Int) := (turn_open.f k l0_0 l0_1 1 0).bind fun bt102 => (if bt102.2.2 = 0 then ((turn_day_order.f k bt102.1 bt102.2.1).bind fun t110 => (some (t110, 0))) else (some (([] : List Int), bt102.2.2)))
theorem turn_Order.mono : ∀ a0 a1 k, LeO (turn_Order.f k a0 a1) (turn_Order.f (k + 1) a0 a1) := by
 intro a0 a1 k
 unfold turn_Order.f
 repeat' first
   | (with_reducible exact turn_day_order.mono _ _ _)
   | (with_reducible exact turn_open.mono _ _ _ _ _)
   | (with_reducible exact LeO.refl _)
   | (with_reducible exact LeO.none _)
   | (with_reducible refine LeO.ite ?_ ?_)
   | (with_reducible refine LeO.bind ?_ (fun _ => ?_))
   | exact turn_day_order.mono _ _ _
   | exact turn_open.mono _ _ _ _ _
   | exact LeO.none _
   | refine LeO.ite ?_ ?_
   | refine LeO.bind ?_ (fun _ => ?_)
set_option maxHeartbeats 8000000 in
set_option maxRecDepth 100000 in
theorem turn_Order.calls (k : Nat) (A0_0 : Option Addr) (c0_0 : Nat) (l0_0 : List (S67)) (A0_1 : Option Addr) (c0_1 : Nat) (l0_1 : List Int) (r1 : List Int) (r2 : Int) (w : World) (hr0_0 : Kd.C k67 w A0_0 l0_0.length l0_0) (hc0_0 : l0_0.length ≤ c0_0) (hr0_1 : Kd.C (Kd.int .i64) w A0_1 l0_1.length l0_1) (hc0_1 : l0_1.length ≤ c0_1) (h : turn_Order.f k l0_0 l0_1 = some (r1, r2)) :
  Calls Tryz.prog 20 #[.agg #[.slice A0_0 l0_0.length c0_0, .slice A0_1 l0_1.length c0_1]] w fun e w' => ∃ v0_ : Value, e = .returned (.tuple #[v0_, .int .i64 r2]) ∧ Kd.R (Kd.int .i64) 3 w' w.heap.size (fun _ => True) v0_ r1 ∧ Below w.heap.size w w' := by
 have hu25 := Tryz.underlying25
 have hu99 := Tryz.underlying99
 have HR0_0 := Aside0.mk hr0_0
 have HC0_0 := Aside0.mk hc0_0
 clear hr0_0 hc0_0
 have HR0_1 := Aside0.mk hr0_1
 have HC0_1 := Aside0.mk hc0_1
 clear hr0_1 hc0_1
 have HB := Aside0.mk (Below.refl w.heap.size w)
 have H : ((turn_open.f k l0_0 l0_1 1 0).bind fun bt102 => (if bt102.2.2 = 0 then ((turn_day_order.f k bt102.1 bt102.2.1).bind fun t110 => (some (t110, 0))) else (some (([] : List Int), bt102.2.2)))) = some (r1, r2) := h
 clear h
 obtain ⟨⟨t102, t105, t108⟩, A2, H⟩ := bi H
 by_cases c3 : t108 = 0
 ·rw [if_pos c3] at H
  have c3b0 : (t108 == 0) = true := beq_iff_eq.mpr c3
  have c3b1 : (t108 != 0) = false := bne_eq_false_iff_eq.mpr c3
  clear c3
  obtain ⟨t110, A4, H⟩ := bi H
  simp only [Option.some.injEq, Prod.mk.injEq] at H
  obtain ⟨rfl, rfl⟩ := H
  go_enter Tryz.func20, Tryz.ntmps20
  go_wp2_with (first | ((with_reducible refine gate_dst (N := 1) rfl ?_); refine bx 1 #[.slice A0_0 l0_0.length c0_0, .slice A0_1 l0_1.length c0_1] 25 ?_; intro gb101 hg w5 hbox hb; have BK101 := hbox; have GW101 := gs HB hg; have GE101 := gs HB hg; replace HB := bs HB hb; clear hb hbox hg; obtain ⟨_, _, _, _⟩ := cf2 BK101) | ((with_reducible refine gc 62 rfl ?_); refine gL 8 Tryz.func62 #[.agg #[.slice A0_0 l0_0.length c0_0, .slice A0_1 l0_1.length c0_1], .int .i64 1, .int .i64 0] ?_; (with_reducible refine (turn_open.calls k (fun k_ => k_ < w.heap.size) _ _ l0_0 (fun k_ => k_ < w.heap.size) _ _ l0_1 1 0 t102 t105 t108 _ ?side1 ?side2 A2.out).mono ?_); (case side1 => exact Kd.V_mk HC0_0.out (Kd.F_below (Kd.C_F k67_heap HR0_0.out) (pE HB))); (case side2 => exact Kd.V_mk HC0_1.out (Kd.F_below (Kd.C_F (Kd.heap_int .i64) HR0_1.out) (pE HB))); rintro e w7 ⟨v103, v106, rfl, ho0, ho1, hb⟩; refine ⟨_, rfl, ?_⟩; have HO104 := Aside0.mk (Kd.V_lower (Kd.V_mono (ok' := fun k_ => k_ ≠ gb101) ho0 (fun k_ hk_ => Or.elim hk_ (fun hs_ => Or.elim hs_ (fun hs_ => fun e_ => Nat.not_le.2 hs_ (by rw [e_]; exact GW101.out)) (fun hs_ => fun e_ => Nat.not_le.2 hs_ (by rw [e_]; exact GW101.out))) (fun hn_ => (Kd.freshB (g := gb101) (o := .cells #[.slice A0_0 l0_0.length c0_0, .slice A0_1 l0_1.length c0_1] 25 (0, 0)) (pB BK101.out) k_ hn_)))) (below_size (pE HB))); have HO107 := Aside0.mk (Kd.V_lower (Kd.V_mono (ok' := fun k_ => k_ ≠ gb101) ho1 (fun k_ hk_ => Or.elim hk_ (fun hs_ => Or.elim hs_ (fun hs_ => fun e_ => Nat.not_le.2 hs_ (by rw [e_]; exact GW101.out)) (fun hs_ => fun e_ => Nat.not_le.2 hs_ (by rw [e_]; exact GW101.out))) (fun hn_ => (Kd.freshB (g := gb101) (o := .cells #[.slice A0_0 l0_0.length c0_0, .slice A0_1 l0_1.length c0_1] 25 (0, 0)) (pB BK101.out) k_ hn_)))) (below_size (pE HB))); replace BK101 := bb BK101 hb; replace HB := bs HB hb; clear hb ho0 ho1) | ((with_reducible refine gate_dst (N := 4) rfl ?_); refine bx 4 #[.slice none 0 0, .slice none 0 0] 99 ?_; intro gb109 hg w8 hbox hb; replace HO104 := ve HO104 hg hb; replace HO107 := ve HO107 hg hb; have BK109 := hbox; have GW109 := gs HB hg; have GE109 := gs HB hg; replace HB := bs HB hb; have NB101_109 := nl BK101 hg; have NB109_101 := nr BK101 hg; replace BK101 := bb BK101 hb; clear hb hbox hg; obtain ⟨Ao9, co9, eo9⟩ := Kd.V_slice HO104.out; subst eo9; have hnb10 := NB109_101.out; have hnc10 := NB101_109.out; obtain ⟨_, _, _, _⟩ := cf2 BK109; obtain ⟨Ao12, co12, eo12⟩ := Kd.V_slice HO107.out; subst eo12) | ((with_reducible refine gc 63 rfl ?_); refine gL 15 Tryz.func63 #[.agg #[.slice Ao9 t102.length co9, .slice Ao12 t105.length co12]] ?_; (with_reducible refine (turn_day_order.calls k _ _ t102 _ _ t105 t110 _ ?side1 ?side2 ?side3 ?side4 A4.out).mono ?_); (case side1 => refine (Kd.V_reads' (e := 67) (base := w.heap.size) (ok := fun k_ => (k_ ≠ gb101 ∧ k_ ≠ gb109)) (n := t102.length) (c := co9) ?_).2.2; exact (by refine pV ?_; exact (Kd.V_mono (Kd.V_far (p := ⟨gb109, 1, none⟩) (Kd.V_far (p := ⟨gb109, 0, none⟩) (Kd.V_mono HO104.out (fun k_ hk => (⟨hk, hk.2⟩ : _ ∧ k_ ≠ gb109))) (fun _ hk => hk.2) (.slice Ao9 t102.length co9)) (fun _ hk => hk.2) (.slice Ao12 t105.length co12)) (fun _ h_ => h_.1)))); (case side2 => exact (Kd.V_reads' HO104.out).2.1); (case side3 => refine (Kd.V_reads' (e := 3) (base := w.heap.size) (ok := fun k_ => (k_ ≠ gb101 ∧ k_ ≠ gb109)) (n := t105.length) (c := co12) ?_).2.2; exact (by refine pV ?_; exact (Kd.V_mono (Kd.V_far (p := ⟨gb109, 1, none⟩) (Kd.V_far (p := ⟨gb109, 0, none⟩) (Kd.V_mono HO107.out (fun k_ hk => (⟨hk, hk.2⟩ : _ ∧ k_ ≠ gb109))) (fun _ hk => hk.2) (.slice Ao9 t102.length co9)) (fun _ hk => hk.2) (.slice Ao12 t105.length co12)) (fun _ h_ => h_.1)))); (case side4 => exact (Kd.V_reads' HO107.out).2.1); rintro e w13 ⟨v111, rfl, ho0, hb⟩; refine ⟨_, rfl, ?_⟩; replace HO104 := Aside0.mk (Kd.V_elder' (by refine pV ?_; exact (Kd.V_mono (Kd.V_far (p := ⟨gb109, 1, none⟩) (Kd.V_far (p := ⟨gb109, 0, none⟩) (Kd.V_mono HO104.out (fun k_ hk => (⟨hk, hk.2⟩ : _ ∧ k_ ≠ gb109))) (fun _ hk => hk.2) (.slice Ao9 t102.length co9)) (fun _ hk => hk.2) (.slice Ao12 t105.length co12)) (fun _ h_ => h_.1))) (Kd.R_base ho0) hb); replace HO107 := Aside0.mk (Kd.V_elder' (by refine pV ?_; exact (Kd.V_mono (Kd.V_far (p := ⟨gb109, 1, none⟩) (Kd.V_far (p := ⟨gb109, 0, none⟩) (Kd.V_mono HO107.out (fun k_ hk => (⟨hk, hk.2⟩ : _ ∧ k_ ≠ gb109))) (fun _ hk => hk.2) (.slice Ao9 t102.length co9)) (fun _ hk => hk.2) (.slice Ao12 t105.length co12)) (fun _ h_ => h_.1))) (Kd.R_base ho0) hb); have HO112 := rl ho0 HB; replace BK101 := bf BK101 hb; replace BK109 := Aside0.mk (blk_below (g := gb109) (o := .cells #[.slice Ao9 t102.length co9, .slice Ao12 t105.length co12] 99 (0, 0)) (by refine pB ?_; refine blk_put (cs := #[.slice Ao9 t102.length co9, .slice none 0 0]) ?_ 1 _ rfl; refine pB ?_; refine blk_put (cs := #[.slice none 0 0, .slice none 0 0]) ?_ 0 _ rfl; exact pB BK109.out) hb); replace HB := bs HB hb; clear hb ho0))
  go_ret2
  exact ⟨_, eT, pR HO112.out, pE HB⟩
 ·rw [if_neg c3] at H
  have c3b0 : (t108 == 0) = false := beq_eq_false_iff_ne.mpr c3
  have c3b1 : (t108 != 0) = true := bne_iff_ne.mpr c3
  simp only [Option.some.injEq, Prod.mk.injEq] at H
  obtain ⟨rfl, rfl⟩ := H
  go_enter Tryz.func20, Tryz.ntmps20
  go_wp2_with (first | ((with_reducible refine gate_dst (N := 1) rfl ?_); refine bx 1 #[.slice A0_0 l0_0.length c0_0, .slice A0_1 l0_1.length c0_1] 25 ?_; intro gb101 hg w14 hbox hb; have BK101 := hbox; have GW101 := gs HB hg; have GE101 := gs HB hg; replace HB := bs HB hb; clear hb hbox hg; obtain ⟨_, _, _, _⟩ := cf2 BK101) | ((with_reducible refine gc 62 rfl ?_); refine gL 8 Tryz.func62 #[.agg #[.slice A0_0 l0_0.length c0_0, .slice A0_1 l0_1.length c0_1], .int .i64 1, .int .i64 0] ?_; (with_reducible refine (turn_open.calls k (fun k_ => k_ < w.heap.size) _ _ l0_0 (fun k_ => k_ < w.heap.size) _ _ l0_1 1 0 t102 t105 t108 _ ?side1 ?side2 A2.out).mono ?_); (case side1 => exact Kd.V_mk HC0_0.out (Kd.F_below (Kd.C_F k67_heap HR0_0.out) (pE HB))); (case side2 => exact Kd.V_mk HC0_1.out (Kd.F_below (Kd.C_F (Kd.heap_int .i64) HR0_1.out) (pE HB))); rintro e w16 ⟨v103, v106, rfl, ho0, ho1, hb⟩; refine ⟨_, rfl, ?_⟩; have HO104 := Aside0.mk (Kd.V_lower (Kd.V_mono (ok' := fun k_ => k_ ≠ gb101) ho0 (fun k_ hk_ => Or.elim hk_ (fun hs_ => Or.elim hs_ (fun hs_ => fun e_ => Nat.not_le.2 hs_ (by rw [e_]; exact GW101.out)) (fun hs_ => fun e_ => Nat.not_le.2 hs_ (by rw [e_]; exact GW101.out))) (fun hn_ => (Kd.freshB (g := gb101) (o := .cells #[.slice A0_0 l0_0.length c0_0, .slice A0_1 l0_1.length c0_1] 25 (0, 0)) (pB BK101.out) k_ hn_)))) (below_size (pE HB))); have HO107 := Aside0.mk (Kd.V_lower (Kd.V_mono (ok' := fun k_ => k_ ≠ gb101) ho1 (fun k_ hk_ => Or.elim hk_ (fun hs_ => Or.elim hs_ (fun hs_ => fun e_ => Nat.not_le.2 hs_ (by rw [e_]; exact GW101.out)) (fun hs_ => fun e_ => Nat.not_le.2 hs_ (by rw [e_]; exact GW101.out))) (fun hn_ => (Kd.freshB (g := gb101) (o := .cells #[.slice A0_0 l0_0.length c0_0, .slice A0_1 l0_1.length c0_1] 25 (0, 0)) (pB BK101.out) k_ hn_)))) (below_size (pE HB))); replace BK101 := bb BK101 hb; replace HB := bs HB hb; clear hb ho0 ho1) | ((with_reducible refine gate_dst (N := 4) rfl ?_); refine bx 4 #[.slice none 0 0, .slice none 0 0] 99 ?_; intro gb109 hg w17 hbox hb; replace HO104 := ve HO104 hg hb; replace HO107 := ve HO107 hg hb; have BK109 := hbox; have GW109 := gs HB hg; have GE109 := gs HB hg; replace HB := bs HB hb; have NB101_109 := nl BK101 hg; have NB109_101 := nr BK101 hg; replace BK101 := bb BK101 hb; clear hb hbox hg; obtain ⟨Ao18, co18, eo18⟩ := Kd.V_slice HO104.out; subst eo18; have hnb19 := NB109_101.out; have hnc19 := NB101_109.out; obtain ⟨_, _, _, _⟩ := cf2 BK109; obtain ⟨Ao21, co21, eo21⟩ := Kd.V_slice HO107.out; subst eo21))
  go_ret2
  exact ⟨_, eT, by first | exact Kd.R_nil _ _ _ _ _ | exact Kd.N_nil _ _ _ _ _ | exact Kd.V_nil _ _ _ _ _ | exact Kd.Q_nil _ _ _ _ _ | exact Kd.S_nil _ _ _ _ _, pE HB⟩
def turn_Fewest.l0 : Nat → Int → Int → List (S67) → List Int → Option (Int × Int)
 | 0, _, _, _, _ => none
 | k + 1, x1, x8, x110000, x110001 => (turn_day_order.f k x110000 x110001).bind fun t110 => ((turn_day_isLate.f x110000 x110001 t110 x8 x1).bind fun t113 => (if t113 = true then (turn_Fewest.l0 k x1 (wrap64 (x8 + 1)) x110000 x110001) else (some (x8, 0))))
def turn_Fewest.f (k : Nat) (l0_0 : List (S67)) (l0_1 : List Int) (a1 : Int) : Option (Int × Int) := (turn_open.f k l0_0 l0_1 1 a1).bind fun bt102 => (if bt102.2.2 = 0 then (turn_Fewest.l0 k a1 1 bt102.1 bt102.2.1) else (some (0, bt102.2.2)))
theorem turn_Fewest.mono_l : ∀ k, (∀ y0 y1 y2 y3, LeO (turn_Fewest.l0 k y0 y1 y2 y3) (turn_Fewest.l0 (k + 1) y0 y1 y2 y3))
 | 0 => fun _ _ _ _ r h => by simp [turn_Fewest.l0] at h
 | k + 1 => by
  have ih0 := turn_Fewest.mono_l k
  ·intro y0 y1 y2 y3
   unfold turn_Fewest.l0
   repeat' first
   | (with_reducible exact ih0 _ _ _ _)
   | (with_reducible exact turn_day_order.mono _ _ _)
   | (with_reducible exact turn_open.mono _ _ _ _ _)
   | (with_reducible exact LeO.refl _)
   | (with_reducible exact LeO.none _)
   | (with_reducible refine LeO.ite ?_ ?_)
   | (with_reducible refine LeO.bind ?_ (fun _ => ?_))
   | exact ih0 _ _ _ _
   | exact turn_day_order.mono _ _ _
   | exact turn_open.mono _ _ _ _ _
   | exact LeO.none _
   | refine LeO.ite ?_ ?_
   | refine LeO.bind ?_ (fun _ => ?_)
theorem turn_Fewest.mono : ∀ a0 a1 a2 k, LeO (turn_Fewest.f k a0 a1 a2) (turn_Fewest.f (k + 1) a0 a1 a2) := by
 intro a0 a1 a2 k
 have ih0 := turn_Fewest.mono_l k
 unfold turn_Fewest.f
 repeat' first
   | (with_reducible exact ih0 _ _ _ _)
   | (with_reducible exact turn_day_order.mono _ _ _)
   | (with_reducible exact turn_open.mono _ _ _ _ _)
   | (with_reducible exact LeO.refl _)
   | (with_reducible exact LeO.none _)
   | (with_reducible refine LeO.ite ?_ ?_)
   | (with_reducible refine LeO.bind ?_ (fun _ => ?_))
   | exact ih0 _ _ _ _
   | exact turn_day_order.mono _ _ _
   | exact turn_open.mono _ _ _ _ _
   | exact LeO.none _
   | refine LeO.ite ?_ ?_
   | refine LeO.bind ?_ (fun _ => ?_)
set_option maxHeartbeats 8000000 in
set_option maxRecDepth 100000 in
theorem turn_Fewest.calls (k : Nat) (A0_0 : Option Addr) (c0_0 : Nat) (l0_0 : List (S67)) (A0_1 : Option Addr) (c0_1 : Nat) (l0_1 : List Int) (a1 : Int) (r1 : Int) (r2 : Int) (w : World) (hr0_0 : Kd.C k67 w A0_0 l0_0.length l0_0) (hc0_0 : l0_0.length ≤ c0_0) (hr0_1 : Kd.C (Kd.int .i64) w A0_1 l0_1.length l0_1) (hc0_1 : l0_1.length ≤ c0_1) (h : turn_Fewest.f k l0_0 l0_1 a1 = some (r1, r2)) :
  Calls Tryz.prog 33 #[.agg #[.slice A0_0 l0_0.length c0_0, .slice A0_1 l0_1.length c0_1], .int .i64 a1] w fun e w' => e = .returned (.tuple #[.int .i64 r1, .int .i64 r2]) ∧ Below w.heap.size w w' := by
 have hu25 := Tryz.underlying25
 have hu99 := Tryz.underlying99
 have HR0_0 := Aside0.mk hr0_0
 have HC0_0 := Aside0.mk hc0_0
 clear hr0_0 hc0_0
 have HR0_1 := Aside0.mk hr0_1
 have HC0_1 := Aside0.mk hc0_1
 clear hr0_1 hc0_1
 have HB := Aside0.mk (Below.refl w.heap.size w)
 have H : ((turn_open.f k l0_0 l0_1 1 a1).bind fun bt102 => (if bt102.2.2 = 0 then (turn_Fewest.l0 k a1 1 bt102.1 bt102.2.1) else (some (0, bt102.2.2)))) = some (r1, r2) := h
 clear h
 obtain ⟨⟨t102, t105, t108⟩, A3, H⟩ := bi H
 by_cases c4 : t108 = 0
 ·rw [if_pos c4] at H
  have c4b0 : (t108 == 0) = true := beq_iff_eq.mpr c4
  have c4b1 : (t108 != 0) = false := bne_eq_false_iff_eq.mpr c4
  clear c4
  have H' := Aside0.mk H
  clear H
  go_enter Tryz.func33, Tryz.ntmps33
  go_wp2_with (first | ((with_reducible refine gate_dst (N := 2) rfl ?_); refine bx 2 #[.slice A0_0 l0_0.length c0_0, .slice A0_1 l0_1.length c0_1] 25 ?_; intro gb101 hg w5 hbox hb; have BK101 := hbox; have GW101 := gs HB hg; have GE101 := gs HB hg; replace HB := bs HB hb; clear hb hbox hg; obtain ⟨hcz6_0, hcz6_1, hfz6_0, hfz6_1⟩ := cf2 BK101) | ((with_reducible refine gc 62 rfl ?_); refine gL 12 Tryz.func62 #[.agg #[.slice A0_0 l0_0.length c0_0, .slice A0_1 l0_1.length c0_1], .int .i64 1, .int .i64 a1] ?_; (with_reducible refine (turn_open.calls k (fun k_ => k_ < w.heap.size) _ _ l0_0 (fun k_ => k_ < w.heap.size) _ _ l0_1 1 a1 t102 t105 t108 _ ?side1 ?side2 A3.out).mono ?_); (case side1 => exact Kd.V_mk HC0_0.out (Kd.F_below (Kd.C_F k67_heap HR0_0.out) (pE HB))); (case side2 => exact Kd.V_mk HC0_1.out (Kd.F_below (Kd.C_F (Kd.heap_int .i64) HR0_1.out) (pE HB))); rintro e w7 ⟨v103, v106, rfl, ho0, ho1, hb⟩; refine ⟨_, rfl, ?_⟩; have HO104 := Aside0.mk (Kd.V_lower (Kd.V_mono (ok' := fun k_ => k_ ≠ gb101) ho0 (fun k_ hk_ => Or.elim hk_ (fun hs_ => Or.elim hs_ (fun hs_ => fun e_ => Nat.not_le.2 hs_ (by rw [e_]; exact GW101.out)) (fun hs_ => fun e_ => Nat.not_le.2 hs_ (by rw [e_]; exact GW101.out))) (fun hn_ => (Kd.freshB (g := gb101) (o := .cells #[.slice A0_0 l0_0.length c0_0, .slice A0_1 l0_1.length c0_1] 25 (0, 0)) (pB BK101.out) k_ hn_)))) (below_size (pE HB))); have HO107 := Aside0.mk (Kd.V_lower (Kd.V_mono (ok' := fun k_ => k_ ≠ gb101) ho1 (fun k_ hk_ => Or.elim hk_ (fun hs_ => Or.elim hs_ (fun hs_ => fun e_ => Nat.not_le.2 hs_ (by rw [e_]; exact GW101.out)) (fun hs_ => fun e_ => Nat.not_le.2 hs_ (by rw [e_]; exact GW101.out))) (fun hn_ => (Kd.freshB (g := gb101) (o := .cells #[.slice A0_0 l0_0.length c0_0, .slice A0_1 l0_1.length c0_1] 25 (0, 0)) (pB BK101.out) k_ hn_)))) (below_size (pE HB))); replace BK101 := bb BK101 hb; replace HB := bs HB hb; clear hb ho0 ho1) | ((with_reducible refine gate_dst (N := 6) rfl ?_); refine bx 6 #[.slice none 0 0, .slice none 0 0] 99 ?_; intro gb109 hg w8 hbox hb; replace HO104 := ve HO104 hg hb; replace HO107 := ve HO107 hg hb; have BK109 := hbox; have GW109 := gs HB hg; have GE109 := gs HB hg; replace HB := bs HB hb; have NB101_109 := nl BK101 hg; have NB109_101 := nr BK101 hg; replace BK101 := bb BK101 hb; clear hb hbox hg; obtain ⟨Ao9, co9, eo9⟩ := Kd.V_slice HO104.out; subst eo9; have hnb10 := NB109_101.out; have hnc10 := NB101_109.out; obtain ⟨hcz11_0, hcz11_1, hfz11_0, hfz11_1⟩ := cf2 BK109; obtain ⟨Ao12, co12, eo12⟩ := Kd.V_slice HO107.out; subst eo12))
  go_loopg [8] k (fun kq v8 w' => ∃ (x8_1 : Int), v8 = .int .i64 x8_1 ∧ Aside0 (turn_Fewest.l0 kq a1 x8_1 t102 t105 = some (r1, r2)) ∧ Aside0 (kq ≤ k) ∧ Aside0 (Kd.V k67 67 w' w.heap.size (fun k_ => k_ ≠ gb101 ∧ k_ ≠ gb109) (.slice Ao9 t102.length co9) t102) ∧ Aside0 (Kd.V (Kd.int .i64) 3 w' w.heap.size (fun k_ => k_ ≠ gb101 ∧ k_ ≠ gb109) (.slice Ao12 t105.length co12) t105) ∧ Aside0 (w'.heap[gb101]? = some (.cells #[(.slice A0_0 l0_0.length c0_0), (.slice A0_1 l0_1.length c0_1)] 25 (0, 0))) ∧ Aside0 (w'.heap[gb109]? = some (.cells #[(.slice Ao9 t102.length co9), (.slice Ao12 t105.length co12)] 99 (0, 0))) ∧ Aside0 (Below w.heap.size w w'))
  case atStart => exact ⟨(1), (by first | rfl | (simp; done) | (simp [*]; done)), H', ⟨Nat.le_refl _⟩, ⟨by (with_reducible repeat (first | apply Kd.V_alloc | apply Kd.V_drewN | apply Kd.V_drew)); exact Kd.V_mono (Kd.V_far (p := ⟨gb109, 1, none⟩) (Kd.V_far (p := ⟨gb109, 0, none⟩) (Kd.V_mono HO104.out (fun k_ hk => (⟨hk, hk.2⟩ : _ ∧ k_ ≠ gb109))) (fun _ hk => hk.2) (.slice Ao9 t102.length co9)) (fun _ hk => hk.2) (.slice Ao12 t105.length co12)) (fun _ hk => ⟨hk.1.1, hk.1.2⟩)⟩, ⟨by (with_reducible repeat (first | apply Kd.V_alloc | apply Kd.V_drewN | apply Kd.V_drew)); exact Kd.V_mono (Kd.V_far (p := ⟨gb109, 1, none⟩) (Kd.V_far (p := ⟨gb109, 0, none⟩) (Kd.V_mono HO107.out (fun k_ hk => (⟨hk, hk.2⟩ : _ ∧ k_ ≠ gb109))) (fun _ hk => hk.2) (.slice Ao9 t102.length co9)) (fun _ hk => hk.2) (.slice Ao12 t105.length co12)) (fun _ hk => ⟨hk.1.1, hk.1.2⟩)⟩, ⟨pF BK101⟩, ⟨by refine pB ?_; refine blk_put (cs := #[.slice Ao9 t102.length co9, .slice none 0 0]) ?_ 1 _ rfl; refine pB ?_; refine blk_put (cs := #[.slice none 0 0, .slice none 0 0]) ?_ 0 _ rfl; exact pB BK109.out⟩, ⟨pE HB⟩⟩
  case round =>
   clear H'
   try clear c1
   try clear p2
   try clear c3
   try clear c4
   try clear c4b0
   try clear c4b1
   try clear c6
   try clear c10
   try clear hcz11_0
   try clear hcz11_1
   try clear hcz6_0
   try clear hcz6_1
   try clear hfz11_0
   try clear hfz11_1
   try clear hfz6_0
   try clear hfz6_1
   obtain ⟨x8_1, rfl, HA, HK1, HO_110000, HO_110001, BK101, BK109, HB⟩ := hrel
   cases gk with
   | zero => exact absurd HA.out (by simp [turn_Fewest.l0])
   | succ k1 =>
    have H := HA.out
    clear HA
    simp only [turn_Fewest.l0] at H
    obtain ⟨t110, A13, H⟩ := bi H
    obtain ⟨t113, A14, H⟩ := bi H
    by_cases c15 : t113 = true
    ·subst c15
     rw [if_pos rfl] at H
     have H' := Aside0.mk H
     clear H
     try go_wp2
     replace HO_110000 := Aside0.mk (Kd.V_drew HO_110000.out)
     replace HO_110001 := Aside0.mk (Kd.V_drew HO_110001.out)
     replace BK101 := Aside0.mk (blk_drew BK101.out)
     replace BK109 := Aside0.mk (blk_drew BK109.out)
     replace HB := Aside0.mk (below_drew1 HB.out)
     refine start_ (n := 6) (S := fun w' => w'.cell? ⟨gb109, 0, none⟩ = some (.slice Ao9 t102.length co9) ∧ w'.cell? ⟨gb109, 1, none⟩ = some (.slice Ao12 t105.length co12)) (ds := []) #[false, false, false, false, false, false] (by kernel_rfl) rfl rfl ⟨(blk_cell BK109.out 0).trans rfl, (blk_cell BK109.out 1).trans rfl⟩ (fun hHeld => ?_)
     generalize wr.drew = w16 at HO_110000 HO_110001 BK101 BK109 HB hHeld ⊢
     refine pu 3 21 ?_
     refine pu 4 22 ?_
     refine tk 0 18 hHeld ?_
     refine tk 1 19 hHeld ?_
     refine on 2 (fun K hK => ?_)
     refine gO Tryz.func63 #[.agg #[.slice Ao9 t102.length co9, .slice Ao12 t105.length co12]] ?_
     with_reducible refine (turn_day_order.calls k1 _ _ t102 _ _ t105 t110 _ ?side1 ?side2 ?side3 ?side4 A13.out).mono ?_
     (case side1 => exact pC (Kd.V_reads' HO_110000.out).2.2)
     (case side2 => exact (Kd.V_reads' HO_110000.out).2.1)
     (case side3 => exact pC (Kd.V_reads' HO_110001.out).2.2)
     (case side4 => exact (Kd.V_reads' HO_110001.out).2.1)
     rintro e w17 ⟨v111, rfl, ho0, hb⟩
     refine ⟨_, rfl, ?_⟩
     replace HO_110000 := Aside0.mk (Kd.V_elder' (pV HO_110000.out) (Kd.R_base ho0) hb)
     replace HO_110001 := Aside0.mk (Kd.V_elder' (pV HO_110001.out) (Kd.R_base ho0) hb)
     have HO112 := rl ho0 HB
     replace BK101 := bb BK101 hb
     replace BK109 := bb BK109 hb
     replace HB := bs HB hb
     (try clear hb)
     (try clear hb2)
     (try clear hk)
     (try clear hi)
     (try clear ho0)
     obtain ⟨Ao18, co18, eo18⟩ := Kd.R_slice HO112.out
     (first | subst eo18 | (injection eo18 with f1_ f2_ f3_; have f4_ := f1_.symm; have f5_ := f3_.symm; clear f1_ f2_ f3_; subst f4_; subst f5_))
     refine hK.out _ _ ⟨(blk_cell BK109.out 0).trans rfl, (blk_cell BK109.out 1).trans rfl⟩ (fun hHeld => ?_)
     clear hK K
     refine norm_ (a' := ?_) ?_ ?_
     rotate_left
     ·show Act.put _ (some 20) _ = _
      simp only [Act.put, List.setIfInBounds_toArray, List.set_cons_zero, List.set_cons_succ, i64_w, i32_w]
      rfl
     refine on 5 (fun K hK => ?_)
     refine gO Tryz.func71 #[.agg #[.slice Ao9 t102.length co9, .slice Ao12 t105.length co12], .slice Ao18 t110.length co18, .int .i64 x8_1, .int .i64 a1] ?_
     with_reducible refine (turn_day_isLate.calls _ _ t102 _ _ t105 _ _ t110 x8_1 a1 true _ ?side1 ?side2 ?side3 ?side4 ?side5 ?side6 A14.out).mono ?_
     (case side1 => exact pC (Kd.V_reads' HO_110000.out).2.2)
     (case side2 => exact (Kd.V_reads' HO_110000.out).2.1)
     (case side3 => exact pC (Kd.V_reads' HO_110001.out).2.2)
     (case side4 => exact (Kd.V_reads' HO_110001.out).2.1)
     (case side5 => exact pC (Kd.R_reads' HO112.out).2.2)
     (case side6 => exact (Kd.R_reads' HO112.out).2.1)
     rintro e w19 ⟨rfl, hb⟩
     refine ⟨_, rfl, ?_⟩
     replace HO_110000 := vb HO_110000 hb
     replace HO_110001 := vb HO_110001 hb
     replace HO112 := rb HO112 hb
     replace BK101 := bb BK101 hb
     replace BK109 := bb BK109 hb
     replace HB := bs HB hb
     (try clear hb)
     (try clear hb2)
     (try clear hk)
     (try clear hi)
     refine hK.out _ _ ⟨(blk_cell BK109.out 0).trans rfl, (blk_cell BK109.out 1).trans rfl⟩ (fun hHeld => ?_)
     clear hK K
     refine norm_ (a' := ?_) ?_ ?_
     rotate_left
     ·show Act.put _ (some 23) _ = _
      simp only [Act.put, List.setIfInBounds_toArray, List.set_cons_zero, List.set_cons_succ, i64_w, i32_w]
      rfl
     refine done_ (by kernel_rfl) ?_
     try go_wp2
     go_roundg k1
     case measure => have := HK1.out; omega
     case rel => exact ⟨(wrap64 (x8_1 + 1)), (by first | rfl | (simp; done) | (simp [*]; done)), H', ⟨by have := HK1.out; omega⟩, ⟨by (with_reducible repeat (first | apply Kd.V_alloc | apply Kd.V_drewN | apply Kd.V_drew)); exact Kd.V_mono HO_110000.out (fun _ hk => ⟨hk.1.1, hk.1.2⟩)⟩, ⟨by (with_reducible repeat (first | apply Kd.V_alloc | apply Kd.V_drewN | apply Kd.V_drew)); exact Kd.V_mono HO_110001.out (fun _ hk => ⟨hk.1.1, hk.1.2⟩)⟩, ⟨pB BK101.out⟩, ⟨pB BK109.out⟩, ⟨pE HB⟩⟩
    ·replace c15 := Bool.eq_false_iff.mpr c15
     subst c15
     rw [if_neg (show ¬ (false = true) by decide)] at H
     simp only [Option.some.injEq, Prod.mk.injEq] at H
     obtain ⟨rfl, rfl⟩ := H
     try go_wp2
     replace HO_110000 := Aside0.mk (Kd.V_drew HO_110000.out)
     replace HO_110001 := Aside0.mk (Kd.V_drew HO_110001.out)
     replace BK101 := Aside0.mk (blk_drew BK101.out)
     replace BK109 := Aside0.mk (blk_drew BK109.out)
     replace HB := Aside0.mk (below_drew1 HB.out)
     refine start_ (n := 6) (S := fun w' => w'.cell? ⟨gb109, 0, none⟩ = some (.slice Ao9 t102.length co9) ∧ w'.cell? ⟨gb109, 1, none⟩ = some (.slice Ao12 t105.length co12)) (ds := []) #[false, false, false, false, false, false] (by kernel_rfl) rfl rfl ⟨(blk_cell BK109.out 0).trans rfl, (blk_cell BK109.out 1).trans rfl⟩ (fun hHeld => ?_)
     generalize wr.drew = w20 at HO_110000 HO_110001 BK101 BK109 HB hHeld ⊢
     refine pu 3 21 ?_
     refine pu 4 22 ?_
     refine tk 0 18 hHeld ?_
     refine tk 1 19 hHeld ?_
     refine on 2 (fun K hK => ?_)
     refine gO Tryz.func63 #[.agg #[.slice Ao9 t102.length co9, .slice Ao12 t105.length co12]] ?_
     with_reducible refine (turn_day_order.calls k1 _ _ t102 _ _ t105 t110 _ ?side1 ?side2 ?side3 ?side4 A13.out).mono ?_
     (case side1 => exact pC (Kd.V_reads' HO_110000.out).2.2)
     (case side2 => exact (Kd.V_reads' HO_110000.out).2.1)
     (case side3 => exact pC (Kd.V_reads' HO_110001.out).2.2)
     (case side4 => exact (Kd.V_reads' HO_110001.out).2.1)
     rintro e w21 ⟨v111, rfl, ho0, hb⟩
     refine ⟨_, rfl, ?_⟩
     replace HO_110000 := Aside0.mk (Kd.V_elder' (pV HO_110000.out) (Kd.R_base ho0) hb)
     replace HO_110001 := Aside0.mk (Kd.V_elder' (pV HO_110001.out) (Kd.R_base ho0) hb)
     have HO112 := rl ho0 HB
     replace BK101 := bb BK101 hb
     replace BK109 := bb BK109 hb
     replace HB := bs HB hb
     (try clear hb)
     (try clear hb2)
     (try clear hk)
     (try clear hi)
     (try clear ho0)
     obtain ⟨Ao22, co22, eo22⟩ := Kd.R_slice HO112.out
     (first | subst eo22 | (injection eo22 with f1_ f2_ f3_; have f4_ := f1_.symm; have f5_ := f3_.symm; clear f1_ f2_ f3_; subst f4_; subst f5_))
     refine hK.out _ _ ⟨(blk_cell BK109.out 0).trans rfl, (blk_cell BK109.out 1).trans rfl⟩ (fun hHeld => ?_)
     clear hK K
     refine norm_ (a' := ?_) ?_ ?_
     rotate_left
     ·show Act.put _ (some 20) _ = _
      simp only [Act.put, List.setIfInBounds_toArray, List.set_cons_zero, List.set_cons_succ, i64_w, i32_w]
      rfl
     refine on 5 (fun K hK => ?_)
     refine gO Tryz.func71 #[.agg #[.slice Ao9 t102.length co9, .slice Ao12 t105.length co12], .slice Ao22 t110.length co22, .int .i64 x8_1, .int .i64 a1] ?_
     with_reducible refine (turn_day_isLate.calls _ _ t102 _ _ t105 _ _ t110 x8_1 a1 false _ ?side1 ?side2 ?side3 ?side4 ?side5 ?side6 A14.out).mono ?_
     (case side1 => exact pC (Kd.V_reads' HO_110000.out).2.2)
     (case side2 => exact (Kd.V_reads' HO_110000.out).2.1)
     (case side3 => exact pC (Kd.V_reads' HO_110001.out).2.2)
     (case side4 => exact (Kd.V_reads' HO_110001.out).2.1)
     (case side5 => exact pC (Kd.R_reads' HO112.out).2.2)
     (case side6 => exact (Kd.R_reads' HO112.out).2.1)
     rintro e w23 ⟨rfl, hb⟩
     refine ⟨_, rfl, ?_⟩
     replace HO_110000 := vb HO_110000 hb
     replace HO_110001 := vb HO_110001 hb
     replace HO112 := rb HO112 hb
     replace BK101 := bb BK101 hb
     replace BK109 := bb BK109 hb
     replace HB := bs HB hb
     (try clear hb)
     (try clear hb2)
     (try clear hk)
     (try clear hi)
     refine hK.out _ _ ⟨(blk_cell BK109.out 0).trans rfl, (blk_cell BK109.out 1).trans rfl⟩ (fun hHeld => ?_)
     clear hK K
     refine norm_ (a' := ?_) ?_ ?_
     rotate_left
     ·show Act.put _ (some 23) _ = _
      simp only [Act.put, List.setIfInBounds_toArray, List.set_cons_zero, List.set_cons_succ, i64_w, i32_w]
      rfl
     refine done_ (by kernel_rfl) ?_
     try go_wp2
     go_ret2
     exact ⟨eT, pE HB⟩
 ·rw [if_neg c4] at H
  have c4b0 : (t108 == 0) = false := beq_eq_false_iff_ne.mpr c4
  have c4b1 : (t108 != 0) = true := bne_iff_ne.mpr c4
  simp only [Option.some.injEq, Prod.mk.injEq] at H
  obtain ⟨rfl, rfl⟩ := H
  go_enter Tryz.func33, Tryz.ntmps33
  go_wp2_with (first | ((with_reducible refine gate_dst (N := 2) rfl ?_); refine bx 2 #[.slice A0_0 l0_0.length c0_0, .slice A0_1 l0_1.length c0_1] 25 ?_; intro gb101 hg w24 hbox hb; have BK101 := hbox; have GW101 := gs HB hg; have GE101 := gs HB hg; replace HB := bs HB hb; clear hb hbox hg; obtain ⟨_, _, _, _⟩ := cf2 BK101) | ((with_reducible refine gc 62 rfl ?_); refine gL 12 Tryz.func62 #[.agg #[.slice A0_0 l0_0.length c0_0, .slice A0_1 l0_1.length c0_1], .int .i64 1, .int .i64 a1] ?_; (with_reducible refine (turn_open.calls k (fun k_ => k_ < w.heap.size) _ _ l0_0 (fun k_ => k_ < w.heap.size) _ _ l0_1 1 a1 t102 t105 t108 _ ?side1 ?side2 A3.out).mono ?_); (case side1 => exact Kd.V_mk HC0_0.out (Kd.F_below (Kd.C_F k67_heap HR0_0.out) (pE HB))); (case side2 => exact Kd.V_mk HC0_1.out (Kd.F_below (Kd.C_F (Kd.heap_int .i64) HR0_1.out) (pE HB))); rintro e w26 ⟨v103, v106, rfl, ho0, ho1, hb⟩; refine ⟨_, rfl, ?_⟩; have HO104 := Aside0.mk (Kd.V_lower (Kd.V_mono (ok' := fun k_ => k_ ≠ gb101) ho0 (fun k_ hk_ => Or.elim hk_ (fun hs_ => Or.elim hs_ (fun hs_ => fun e_ => Nat.not_le.2 hs_ (by rw [e_]; exact GW101.out)) (fun hs_ => fun e_ => Nat.not_le.2 hs_ (by rw [e_]; exact GW101.out))) (fun hn_ => (Kd.freshB (g := gb101) (o := .cells #[.slice A0_0 l0_0.length c0_0, .slice A0_1 l0_1.length c0_1] 25 (0, 0)) (pB BK101.out) k_ hn_)))) (below_size (pE HB))); have HO107 := Aside0.mk (Kd.V_lower (Kd.V_mono (ok' := fun k_ => k_ ≠ gb101) ho1 (fun k_ hk_ => Or.elim hk_ (fun hs_ => Or.elim hs_ (fun hs_ => fun e_ => Nat.not_le.2 hs_ (by rw [e_]; exact GW101.out)) (fun hs_ => fun e_ => Nat.not_le.2 hs_ (by rw [e_]; exact GW101.out))) (fun hn_ => (Kd.freshB (g := gb101) (o := .cells #[.slice A0_0 l0_0.length c0_0, .slice A0_1 l0_1.length c0_1] 25 (0, 0)) (pB BK101.out) k_ hn_)))) (below_size (pE HB))); replace BK101 := bb BK101 hb; replace HB := bs HB hb; clear hb ho0 ho1) | ((with_reducible refine gate_dst (N := 6) rfl ?_); refine bx 6 #[.slice none 0 0, .slice none 0 0] 99 ?_; intro gb109 hg w27 hbox hb; replace HO104 := ve HO104 hg hb; replace HO107 := ve HO107 hg hb; have BK109 := hbox; have GW109 := gs HB hg; have GE109 := gs HB hg; replace HB := bs HB hb; have NB101_109 := nl BK101 hg; have NB109_101 := nr BK101 hg; replace BK101 := bb BK101 hb; clear hb hbox hg; obtain ⟨Ao28, co28, eo28⟩ := Kd.V_slice HO104.out; subst eo28; have hnb29 := NB109_101.out; have hnc29 := NB101_109.out; obtain ⟨_, _, _, _⟩ := cf2 BK109; obtain ⟨Ao31, co31, eo31⟩ := Kd.V_slice HO107.out; subst eo31))
  go_ret2
  exact ⟨eT, pE HB⟩
def walkmilllaw04_span.f (a0 : Int) (a1 : Int) : Option (Int × Int) := some (a0, a1)
set_option maxHeartbeats 8000000 in
set_option maxRecDepth 100000 in
theorem walkmilllaw04_span.calls (a0 : Int) (a1 : Int) (r1 : Int) (r2 : Int) (w : World) (h : walkmilllaw04_span.f a0 a1 = some (r1, r2)) :
  Calls Tryz.prog 55 #[.int .i64 a0, .int .i64 a1] w fun e w' => e = .returned (.agg #[.int .i64 r1, .int .i64 r2]) ∧ Below w.heap.size w w' := by
 have hu42 := Tryz.underlying42
 have HB := Aside0.mk (Below.refl w.heap.size w)
 have H : (some (a0, a1)) = some (r1, r2) := h
 clear h
 simp only [Option.some.injEq, Prod.mk.injEq] at H
 obtain ⟨rfl, rfl⟩ := H
 go_enter Tryz.func55, Tryz.ntmps55
 go_wp2_with (first | ((with_reducible refine gate_dst (N := 4) rfl ?_); refine bx 4 #[.int .i64 0, .int .i64 0] 42 ?_; intro gb101 hg w3 hbox hb; have BK101 := hbox; have GW101 := gs HB hg; have GE101 := gs HB hg; replace HB := bs HB hb; clear hb hbox hg; obtain ⟨_, _, _, _⟩ := cf2 BK101))
 refine bodyPost_ret (results_cell_row rfl _ _ gb101 42 #[.int .i64 a0, .int .i64 a1] (0, 0) _ rfl (by refine pB ?_; refine blk_put (cs := #[.int .i64 a0, .int .i64 0]) ?_ 1 _ rfl; refine pB ?_; refine blk_put (cs := #[.int .i64 0, .int .i64 0]) ?_ 0 _ rfl; exact pB BK101.out) Tryz.underlying42 rfl (by kernel_rfl)) rfl ?_
 exact ⟨eT, pE HB⟩
end Go.Proofs.YtlmglnobdcgbeaaGreat.P
