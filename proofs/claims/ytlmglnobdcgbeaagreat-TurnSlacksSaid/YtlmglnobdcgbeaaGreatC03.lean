/- Part 3 of what the law's proof needs: words, walks of functions and plain facts. -/
import Derived.Test.YtlmglnobdcgbeaaGreatC01
import Derived.Test.YtlmglnobdcgbeaaGreatC02
set_option linter.unusedVariables false
set_option linter.unusedSimpArgs false
namespace Go.Proofs.YtlmglnobdcgbeaaGreat.P
open Go.RowKit Go.Proofs.YtlmglnobdcgbeaaGreatW.PrintWords Go.Proofs.YtlmglnobdcgbeaaGreatW.PrintLast Go.Proofs.YtlmglnobdcgbeaaGreatW.PrintMore
attribute [local go_sem] max2_int min2_int max_two min_two max_three min_three max_four min_four
def walkmillref04_Before.f (k : Nat) (l0_0 : List (S67)) (l0_1 : List Int) (a1 : Int) (a2 : Int) : Option (Bool) := if 0 ≤ a1 then (if a1 < (l0_0.length : Int) then (if 0 ≤ a2 then (if a2 < (l0_0.length : Int) then (if ((rd_T67 l0_0 a1).f1) = ((rd_T67 l0_0 a2).f1) then ((walkmillref04_Earlier.f k l0_0 l0_1 a1).bind fun t106 => ((walkmillref04_Earlier.f k l0_0 l0_1 a2).bind fun t107 => (if t106 = t107 then (if 0 ≤ ((rd_T67 l0_0 a1).f0) then (if ((rd_T67 l0_0 a1).f0) < (l0_1.length : Int) then (if 0 ≤ ((rd_T67 l0_0 a2).f0) then (if ((rd_T67 l0_0 a2).f0) < (l0_1.length : Int) then (some (decide ((rd l0_1 ((rd_T67 l0_0 a1).f0)) < (rd l0_1 ((rd_T67 l0_0 a2).f0))))) else (none)) else (none)) else (none)) else (none)) else (some (decide (t106 < t107)))))) else (some (decide (((rd_T67 l0_0 a1).f1) < ((rd_T67 l0_0 a2).f1))))) else (none)) else (none)) else (none)) else (none)
theorem walkmillref04_Before.mono : ∀ a0 a1 a2 a3 k, LeO (walkmillref04_Before.f k a0 a1 a2 a3) (walkmillref04_Before.f (k + 1) a0 a1 a2 a3) := by
 intro a0 a1 a2 a3 k
 unfold walkmillref04_Before.f
 repeat' first
   | (with_reducible exact walkmillref04_Earlier.mono _ _ _ _)
   | (with_reducible exact LeO.refl _)
   | (with_reducible exact LeO.none _)
   | (with_reducible refine LeO.ite ?_ ?_)
   | (with_reducible refine LeO.bind ?_ (fun _ => ?_))
   | exact walkmillref04_Earlier.mono _ _ _ _
   | exact LeO.none _
   | refine LeO.ite ?_ ?_
   | refine LeO.bind ?_ (fun _ => ?_)
def walkmillref04_Before.T1 : Bool × List (List Nat × List Nat) := (true, [([], []), ([0], [0]), ([], []), ([1, 2], [1, 2]), ([3], [3]), ([], []), ([5], [5]), ([], []), ([6, 7], [6, 7]), ([8], [8]), ([], []), ([], []), ([10, 4, 0, 1, 2, 3, 4, 10, 11], [4, 10]), ([11, 9, 12, 0, 1, 2, 3, 4, 5, 6, 7, 8, 9, 10, 11, 12], [9, 11])])
def walkmillref04_Before.B1 : List Nat := [0, 1, 0, 7, 15, 0, 32, 0, 224, 480, 0, 0, 3103, 8191]
theorem walkmillref04_Before.tab1 : rtab .any (opsOf Tryz.f64 1) = walkmillref04_Before.T1 := by kernel_rfl
theorem walkmillref04_Before.bits1 : waitsOk walkmillref04_Before.T1.2 walkmillref04_Before.B1 = true := by kernel_rfl
def walkmillref04_Before.T4 : Bool × List (List Nat × List Nat) := (true, [([], []), ([], []), ([0, 1], [0, 1]), ([], []), ([], []), ([3, 4, 2], [3, 4]), ([2, 5, 0, 1, 2], [2]), ([5, 6, 0, 1, 2, 3, 4, 5, 6], [5])])
def walkmillref04_Before.B4 : List Nat := [0, 0, 3, 0, 0, 31, 63, 127]
theorem walkmillref04_Before.tab4 : rtab .any (opsOf Tryz.f64 4) = walkmillref04_Before.T4 := by kernel_rfl
theorem walkmillref04_Before.bits4 : waitsOk walkmillref04_Before.T4.2 walkmillref04_Before.B4 = true := by kernel_rfl
def walkmillref04_Before.T7 : Bool × List (List Nat × List Nat) := (true, [([], []), ([0], [0]), ([], []), ([2], [2]), ([1, 3], [1, 3]), ([4], [4]), ([], []), ([6], [6]), ([], []), ([8], [8]), ([7, 9], [7, 9]), ([10], [10]), ([5, 11], [5, 11]), ([12, 0, 1, 2, 3, 4, 5, 6, 7, 8, 9, 10, 11, 12], [12])])
def walkmillref04_Before.B7 : List Nat := [0, 1, 0, 4, 15, 31, 0, 64, 0, 256, 960, 1984, 4095, 8191]
theorem walkmillref04_Before.tab7 : rtab .any (opsOf Tryz.f64 7) = walkmillref04_Before.T7 := by kernel_rfl
theorem walkmillref04_Before.bits7 : waitsOk walkmillref04_Before.T7.2 walkmillref04_Before.B7 = true := by kernel_rfl
set_option maxHeartbeats 8000000 in
set_option maxRecDepth 100000 in
theorem walkmillref04_Before.calls (k : Nat) (A0_0 : Option Addr) (c0_0 : Nat) (l0_0 : List (S67)) (A0_1 : Option Addr) (c0_1 : Nat) (l0_1 : List Int) (a1 : Int) (a2 : Int) (r : Bool) (w : World) (hr0_0 : Kd.C k67 w A0_0 l0_0.length l0_0) (hc0_0 : l0_0.length ≤ c0_0) (hr0_1 : Kd.C (Kd.int .i64) w A0_1 l0_1.length l0_1) (hc0_1 : l0_1.length ≤ c0_1) (h : walkmillref04_Before.f k l0_0 l0_1 a1 a2 = some r) :
  Calls Tryz.prog 64 #[.agg #[.slice A0_0 l0_0.length c0_0, .slice A0_1 l0_1.length c0_1], .int .i64 a1, .int .i64 a2] w fun e w' => e = .returned (.bool r) ∧ Below w.heap.size w w' := by
 have hu25 := Tryz.underlying25
 have hu67 := Tryz.underlying67
 have HR0_0 := Aside0.mk hr0_0
 have HC0_0 := Aside0.mk hc0_0
 clear hr0_0 hc0_0
 have HR0_1 := Aside0.mk hr0_1
 have HC0_1 := Aside0.mk hc0_1
 clear hr0_1 hc0_1
 have HB := Aside0.mk (Below.refl w.heap.size w)
 have H : (if 0 ≤ a1 then (if a1 < (l0_0.length : Int) then (if 0 ≤ a2 then (if a2 < (l0_0.length : Int) then (if ((rd_T67 l0_0 a1).f1) = ((rd_T67 l0_0 a2).f1) then ((walkmillref04_Earlier.f k l0_0 l0_1 a1).bind fun t106 => ((walkmillref04_Earlier.f k l0_0 l0_1 a2).bind fun t107 => (if t106 = t107 then (if 0 ≤ ((rd_T67 l0_0 a1).f0) then (if ((rd_T67 l0_0 a1).f0) < (l0_1.length : Int) then (if 0 ≤ ((rd_T67 l0_0 a2).f0) then (if ((rd_T67 l0_0 a2).f0) < (l0_1.length : Int) then (some (decide ((rd l0_1 ((rd_T67 l0_0 a1).f0)) < (rd l0_1 ((rd_T67 l0_0 a2).f0))))) else (none)) else (none)) else (none)) else (none)) else (some (decide (t106 < t107)))))) else (some (decide (((rd_T67 l0_0 a1).f1) < ((rd_T67 l0_0 a2).f1))))) else (none)) else (none)) else (none)) else (none)) = some r := h
 clear h
 by_cases c4 : 0 ≤ a1
 ·
  rw [if_pos c4] at H
  have c4b0 : decide (0 ≤ a1) = true := decide_eq_true c4
  clear c4
  by_cases c5 : a1 < (l0_0.length : Int)
  ·
   rw [if_pos c5] at H
   have c5b0 : decide (a1 < (l0_0.length : Int)) = true := decide_eq_true c5
   clear c5
   by_cases c6 : 0 ≤ a2
   ·
    rw [if_pos c6] at H
    have c6b0 : decide (0 ≤ a2) = true := decide_eq_true c6
    clear c6
    by_cases c7 : a2 < (l0_0.length : Int)
    ·
     rw [if_pos c7] at H
     have c7b0 : decide (a2 < (l0_0.length : Int)) = true := decide_eq_true c7
     clear c7
     by_cases c8 : ((rd_T67 l0_0 a1).f1) = ((rd_T67 l0_0 a2).f1)
     ·
      rw [if_pos c8] at H
      have c8b0 : (((rd_T67 l0_0 a1).f1) == ((rd_T67 l0_0 a2).f1)) = true := beq_iff_eq.mpr c8
      have c8b1 : (((rd_T67 l0_0 a1).f1) != ((rd_T67 l0_0 a2).f1)) = false := bne_eq_false_iff_eq.mpr c8
      clear c8
      obtain ⟨t106, A9, H⟩ := bi H
      obtain ⟨t107, A10, H⟩ := bi H
      by_cases c11 : t106 = t107
      ·
       rw [if_pos c11] at H
       have c11b0 : (t106 == t107) = true := beq_iff_eq.mpr c11
       have c11b1 : (t106 != t107) = false := bne_eq_false_iff_eq.mpr c11
       clear c11
       by_cases c12 : 0 ≤ ((rd_T67 l0_0 a1).f0)
       ·
        rw [if_pos c12] at H
        have c12b0 : decide (0 ≤ ((rd_T67 l0_0 a1).f0)) = true := decide_eq_true c12
        clear c12
        by_cases c13 : ((rd_T67 l0_0 a1).f0) < (l0_1.length : Int)
        ·
         rw [if_pos c13] at H
         have c13b0 : decide (((rd_T67 l0_0 a1).f0) < (l0_1.length : Int)) = true := decide_eq_true c13
         clear c13
         by_cases c14 : 0 ≤ ((rd_T67 l0_0 a2).f0)
         ·
          rw [if_pos c14] at H
          have c14b0 : decide (0 ≤ ((rd_T67 l0_0 a2).f0)) = true := decide_eq_true c14
          clear c14
          by_cases c15 : ((rd_T67 l0_0 a2).f0) < (l0_1.length : Int)
          ·
           rw [if_pos c15] at H
           have c15b0 : decide (((rd_T67 l0_0 a2).f0) < (l0_1.length : Int)) = true := decide_eq_true c15
           clear c15
           obtain rfl := Option.some.inj H
           go_enter Tryz.func64, Tryz.ntmps64
           try go_wp2_with (first | ((with_reducible refine gate_dst (N := 3) rfl ?_); refine bx 3 #[.slice A0_0 l0_0.length c0_0, .slice A0_1 l0_1.length c0_1] 25 ?_; intro gb101 hg w16 hbox hb; have BK101 := hbox; have GW101 := gs HB hg; have GE101 := gs HB hg; replace HB := bs HB hb; clear hb hbox hg))
           replace BK101 := Aside0.mk (blk_drew BK101.out)
           replace HB := Aside0.mk (below_drew1 HB.out)
           have p102 : 0 ≤ (a1 : Int) := dT
           have q102 : a1 < (l0_0.length : Int) := dT
           obtain ⟨ad102, e102, hx102_0, hx102_1, hx102_2, hx102_3⟩ := at_T67 HR0_0.out a1 p102 q102
           have hw102_3 := hx102_3
           have hw102_2 := hx102_2
           have hw102_1 := hx102_1
           have hw102_0 := hx102_0
           cases e102
           replace hx102_0 := cut_ HB hx102_0
           replace hx102_1 := cut_ HB hx102_1
           replace hx102_2 := cut_ HB hx102_2
           replace hx102_3 := cut_ HB hx102_3
           replace p102 := eq_true p102
           replace q102 := eq_true q102
           have p103 : 0 ≤ (a2 : Int) := dT
           have q103 : a2 < (l0_0.length : Int) := dT
           obtain ⟨ad103, e103, hx103_0, hx103_1, hx103_2, hx103_3⟩ := at_T67 HR0_0.out a2 p103 q103
           have hw103_3 := hx103_3
           have hw103_2 := hx103_2
           have hw103_1 := hx103_1
           have hw103_0 := hx103_0
           obtain rfl : ad102 = ad103 := (by injection e103)
           replace hx103_0 := cut_ HB hx103_0
           replace hx103_1 := cut_ HB hx103_1
           replace hx103_2 := cut_ HB hx103_2
           replace hx103_3 := cut_ HB hx103_3
           replace p103 := eq_true p103
           replace q103 := eq_true q103
           refine start_ (n := 14) (S := fun w' => w'.cell? ⟨gb101, 0, none⟩ = some (.slice (some ad102) l0_0.length c0_0) ∧ w'.cell? ⟨gb101, 1, none⟩ = some (.slice A0_1 l0_1.length c0_1) ∧ w'.cell? (ad102.add ((a1).toNat * 4)) = some (.int .i64 ((rd_T67 l0_0 a1).f0)) ∧ w'.cell? ⟨(ad102.add ((a1).toNat * 4)).block, (ad102.add ((a1).toNat * 4)).off + 1, none⟩ = some (.int .i64 ((rd_T67 l0_0 a1).f1)) ∧ w'.cell? ⟨(ad102.add ((a1).toNat * 4)).block, (ad102.add ((a1).toNat * 4)).off + 2, none⟩ = some (.int .i64 ((rd_T67 l0_0 a1).f2.f0)) ∧ w'.cell? ⟨(ad102.add ((a1).toNat * 4)).block, (ad102.add ((a1).toNat * 4)).off + 3, none⟩ = some (.int .i64 ((rd_T67 l0_0 a1).f2.f1)) ∧ w'.cell? (ad102.add ((a2).toNat * 4)) = some (.int .i64 ((rd_T67 l0_0 a2).f0)) ∧ w'.cell? ⟨(ad102.add ((a2).toNat * 4)).block, (ad102.add ((a2).toNat * 4)).off + 1, none⟩ = some (.int .i64 ((rd_T67 l0_0 a2).f1)) ∧ w'.cell? ⟨(ad102.add ((a2).toNat * 4)).block, (ad102.add ((a2).toNat * 4)).off + 2, none⟩ = some (.int .i64 ((rd_T67 l0_0 a2).f2.f0)) ∧ w'.cell? ⟨(ad102.add ((a2).toNat * 4)).block, (ad102.add ((a2).toNat * 4)).off + 3, none⟩ = some (.int .i64 ((rd_T67 l0_0 a2).f2.f1))) (ds := []) #[false, false, false, false, false, false, false, false, false, false, false, false, false, false] (by kernel_rfl) rfl rfl ⟨(blk_cell BK101.out 0).trans rfl, (blk_cell BK101.out 1).trans rfl, (cB HB hw102_0), (cB HB hw102_1), (cB HB hw102_2), (cB HB hw102_3), (cB HB hw103_0), (cB HB hw103_1), (cB HB hw103_2), (cB HB hw103_3)⟩ (fun hHeld => ?_); refine with_tabW walkmillref04_Before.tab1 walkmillref04_Before.bits1 (fun HT_ HW_ => ?_)
           generalize w16.drew = w17 at BK101 HB hx102_0 hx102_1 hx102_2 hx102_3 hx103_0 hx103_1 hx103_2 hx103_3 hHeld ⊢
           refine pu 0 11 ?_
           refine pu 2 13 ?_
           refine pu 5 16 ?_
           refine pu 7 18 ?_
           refine tk 1 12 hHeld ?_
           refine pu 3 14 ?_
           refine tk 4 15 hHeld ?_
           refine tk 6 17 hHeld ?_
           refine pu 8 19 ?_
           refine tk 9 20 hHeld ?_
           refine join_ (σ := Nat × Nat) 2 #[true, true, true, true, true, true, true, true, true, true, true, true, false, false] (fun s_ => [(7, .pointer (some ⟨s_.1, 0, none⟩)), (8, .pointer (some ⟨s_.2, 0, none⟩))]) (fun s_ w' => (w'.cell? ⟨gb101, 0, none⟩ = some (.slice (some ad102) l0_0.length c0_0) ∧ w'.cell? ⟨gb101, 1, none⟩ = some (.slice A0_1 l0_1.length c0_1) ∧ w'.cell? (ad102.add ((a1).toNat * 4)) = some (.int .i64 ((rd_T67 l0_0 a1).f0)) ∧ w'.cell? ⟨(ad102.add ((a1).toNat * 4)).block, (ad102.add ((a1).toNat * 4)).off + 1, none⟩ = some (.int .i64 ((rd_T67 l0_0 a1).f1)) ∧ w'.cell? ⟨(ad102.add ((a1).toNat * 4)).block, (ad102.add ((a1).toNat * 4)).off + 2, none⟩ = some (.int .i64 ((rd_T67 l0_0 a1).f2.f0)) ∧ w'.cell? ⟨(ad102.add ((a1).toNat * 4)).block, (ad102.add ((a1).toNat * 4)).off + 3, none⟩ = some (.int .i64 ((rd_T67 l0_0 a1).f2.f1)) ∧ w'.cell? (ad102.add ((a2).toNat * 4)) = some (.int .i64 ((rd_T67 l0_0 a2).f0)) ∧ w'.cell? ⟨(ad102.add ((a2).toNat * 4)).block, (ad102.add ((a2).toNat * 4)).off + 1, none⟩ = some (.int .i64 ((rd_T67 l0_0 a2).f1)) ∧ w'.cell? ⟨(ad102.add ((a2).toNat * 4)).block, (ad102.add ((a2).toNat * 4)).off + 2, none⟩ = some (.int .i64 ((rd_T67 l0_0 a2).f2.f0)) ∧ w'.cell? ⟨(ad102.add ((a2).toNat * 4)).block, (ad102.add ((a2).toNat * 4)).off + 3, none⟩ = some (.int .i64 ((rd_T67 l0_0 a2).f2.f1))) ∧ (w'.heap[gb101]? = some (.cells #[.slice (some ad102) l0_0.length c0_0, .slice A0_1 l0_1.length c0_1] 25 (0, 0))) ∧ (w'.heap[s_.1]? = some (.cells #[.int .i64 0, .int .i64 0, .int .i64 0, .int .i64 0] 67 (0, 0))) ∧ (w'.heap[s_.2]? = some (.cells #[.int .i64 0, .int .i64 0, .int .i64 0, .int .i64 0] 67 (0, 0))) ∧ (w.heap.size ≤ s_.1) ∧ (w.heap.size ≤ s_.1) ∧ (gb101 ≠ s_.1) ∧ (s_.1 ≠ gb101) ∧ (s_.2 ≠ s_.1) ∧ (s_.1 ≠ s_.2) ∧ (w.heap.size ≤ s_.2) ∧ (w.heap.size ≤ s_.2) ∧ (gb101 ≠ s_.2) ∧ (s_.2 ≠ gb101) ∧ (Below w.heap.size w w')) ?_ ?_
           rotate_left
           ·
            intro hCont
            refine two_ (i := 10) (j := 11) (Ni := some 7) (Nj := some 8) #[true, true, true, true, true, true, true, true, true, true, true, false, false, false] #[true, true, true, true, true, true, true, true, true, true, false, true, false, false] rfl rfl rfl rfl (two_of HT_.out (by kernel_rfl)) (by decide) (by decide) (fun K hK => ?_) (fun K hK => ?_)
            ·
             skip
             refine box_step ?hg (N := 7) ?hd (cs := #[.int .i64 0, .int .i64 0, .int .i64 0, .int .i64 0]) (t := 67) ?hr ?_; (case hd => rfl); (case hg => rfl); (case hr => first | (go_simp; done) | (go_simp; rfl))
             intro gb104 hg w18 hbox hb
             have BK104 := Aside0.mk (hbox)
             have GW104 := gs HB hg
             have GE104 := gs HB hg
             replace HB := bs HB hb
             have NB101_104 := nl BK101 hg
             have NB104_101 := nr BK101 hg
             replace BK101 := bb BK101 hb
             clear hb hbox hg
             refine hK.out _ _ ⟨(blk_cell BK101.out 0).trans rfl, (blk_cell BK101.out 1).trans rfl, (cB HB hw102_0), (cB HB hw102_1), (cB HB hw102_2), (cB HB hw102_3), (cB HB hw103_0), (cB HB hw103_1), (cB HB hw103_2), (cB HB hw103_3)⟩ (fun hHeld => ?_)
             clear hK K
             refine norm_ (a' := ?_) ?_ ?_
             rotate_left
             ·
              show Act.put _ (some 7) _ = _
              simp only [Act.put, List.setIfInBounds_toArray, List.set_cons_zero, List.set_cons_succ, i64_w, i32_w]
              rfl
             refine on 11 (fun K hK => ?_)
             refine box_step ?hg (N := 8) ?hd (cs := #[.int .i64 0, .int .i64 0, .int .i64 0, .int .i64 0]) (t := 67) ?hr ?_; (case hd => rfl); (case hg => rfl); (case hr => first | (go_simp; done) | (go_simp; rfl))
             intro gb105 hg w19 hbox hb
             have BK105 := Aside0.mk (hbox)
             have GW105 := gs HB hg
             have GE105 := gs HB hg
             replace HB := bs HB hb
             have NB101_105 := nl BK101 hg
             have NB105_101 := nr BK101 hg
             replace BK101 := bb BK101 hb
             have NB104_105 := nl BK104 hg
             have NB105_104 := nr BK104 hg
             replace BK104 := bb BK104 hb
             clear hb hbox hg
             refine hK.out _ _ ⟨(blk_cell BK101.out 0).trans rfl, (blk_cell BK101.out 1).trans rfl, (cB HB hw102_0), (cB HB hw102_1), (cB HB hw102_2), (cB HB hw102_3), (cB HB hw103_0), (cB HB hw103_1), (cB HB hw103_2), (cB HB hw103_3)⟩ (fun hHeld => ?_)
             clear hK K
             refine norm_ (a' := ?_) ?_ ?_
             rotate_left
             ·
              show Act.put _ (some 8) _ = _
              simp only [Act.put, List.setIfInBounds_toArray, List.set_cons_zero, List.set_cons_succ, i64_w, i32_w]
              rfl
             exact norm_ (by simp only [putAll, Act.put, List.setIfInBounds_toArray, List.set_cons_zero, List.set_cons_succ]) (hCont (gb104, gb105) _ ⟨hHeld, (pB BK101.out), (pB BK104.out), (pB BK105.out), GW104.out, GE104.out, NB101_104.out, NB104_101.out, NB105_104.out, NB104_105.out, GW105.out, GE105.out, NB101_105.out, NB105_101.out, (pE HB)⟩)
            ·
             skip
             refine box_step ?hg (N := 8) ?hd (cs := #[.int .i64 0, .int .i64 0, .int .i64 0, .int .i64 0]) (t := 67) ?hr ?_; (case hd => rfl); (case hg => rfl); (case hr => first | (go_simp; done) | (go_simp; rfl))
             intro gb105 hg w18 hbox hb
             have BK105 := Aside0.mk (hbox)
             have GW105 := gs HB hg
             have GE105 := gs HB hg
             replace HB := bs HB hb
             have NB101_105 := nl BK101 hg
             have NB105_101 := nr BK101 hg
             replace BK101 := bb BK101 hb
             clear hb hbox hg
             refine hK.out _ _ ⟨(blk_cell BK101.out 0).trans rfl, (blk_cell BK101.out 1).trans rfl, (cB HB hw102_0), (cB HB hw102_1), (cB HB hw102_2), (cB HB hw102_3), (cB HB hw103_0), (cB HB hw103_1), (cB HB hw103_2), (cB HB hw103_3)⟩ (fun hHeld => ?_)
             clear hK K
             refine norm_ (a' := ?_) ?_ ?_
             rotate_left
             ·
              show Act.put _ (some 8) _ = _
              simp only [Act.put, List.setIfInBounds_toArray, List.set_cons_zero, List.set_cons_succ, i64_w, i32_w]
              rfl
             refine on 10 (fun K hK => ?_)
             refine box_step ?hg (N := 7) ?hd (cs := #[.int .i64 0, .int .i64 0, .int .i64 0, .int .i64 0]) (t := 67) ?hr ?_; (case hd => rfl); (case hg => rfl); (case hr => first | (go_simp; done) | (go_simp; rfl))
             intro gb104 hg w19 hbox hb
             have BK104 := Aside0.mk (hbox)
             have GW104 := gs HB hg
             have GE104 := gs HB hg
             replace HB := bs HB hb
             have NB101_104 := nl BK101 hg
             have NB104_101 := nr BK101 hg
             replace BK101 := bb BK101 hb
             have NB105_104 := nl BK105 hg
             have NB104_105 := nr BK105 hg
             replace BK105 := bb BK105 hb
             clear hb hbox hg
             refine hK.out _ _ ⟨(blk_cell BK101.out 0).trans rfl, (blk_cell BK101.out 1).trans rfl, (cB HB hw102_0), (cB HB hw102_1), (cB HB hw102_2), (cB HB hw102_3), (cB HB hw103_0), (cB HB hw103_1), (cB HB hw103_2), (cB HB hw103_3)⟩ (fun hHeld => ?_)
             clear hK K
             refine norm_ (a' := ?_) ?_ ?_
             rotate_left
             ·
              show Act.put _ (some 7) _ = _
              simp only [Act.put, List.setIfInBounds_toArray, List.set_cons_zero, List.set_cons_succ, i64_w, i32_w]
              rfl
             exact norm_ (by simp only [putAll, Act.put, List.setIfInBounds_toArray, List.set_cons_zero, List.set_cons_succ]) (hCont (gb104, gb105) _ ⟨hHeld, (pB BK101.out), (pB BK104.out), (pB BK105.out), GW104.out, GE104.out, NB101_104.out, NB104_101.out, NB105_104.out, NB104_105.out, GW105.out, GE105.out, NB101_105.out, NB105_101.out, (pE HB)⟩)
           rintro ⟨gb104, gb105⟩ w20 ⟨hS_, h0_, h1_, h2_, h3_, h4_, h5_, h6_, h7_, h8_, h9_, h10_, h11_, h12_, h13_⟩
           have n0_ : Aside0 (w20.heap[gb101]? = some (.cells #[.slice (some ad102) l0_0.length c0_0, .slice A0_1 l0_1.length c0_1] 25 (0, 0))) := ⟨h0_⟩
           have n1_ : Aside0 (w20.heap[gb104]? = some (.cells #[.int .i64 0, .int .i64 0, .int .i64 0, .int .i64 0] 67 (0, 0))) := ⟨h1_⟩
           have n2_ : Aside0 (w20.heap[gb105]? = some (.cells #[.int .i64 0, .int .i64 0, .int .i64 0, .int .i64 0] 67 (0, 0))) := ⟨h2_⟩
           have n3_ : Aside0 (w.heap.size ≤ gb104) := ⟨h3_⟩
           have n4_ : Aside0 (w.heap.size ≤ gb104) := ⟨h4_⟩
           have n5_ : Aside0 (gb101 ≠ gb104) := ⟨h5_⟩
           have n6_ : Aside0 (gb104 ≠ gb101) := ⟨h6_⟩
           have n7_ : Aside0 (gb105 ≠ gb104) := ⟨h7_⟩
           have n8_ : Aside0 (gb104 ≠ gb105) := ⟨h8_⟩
           have n9_ : Aside0 (w.heap.size ≤ gb105) := ⟨h9_⟩
           have n10_ : Aside0 (w.heap.size ≤ gb105) := ⟨h10_⟩
           have n11_ : Aside0 (gb101 ≠ gb105) := ⟨h11_⟩
           have n12_ : Aside0 (gb105 ≠ gb101) := ⟨h12_⟩
           have n13_ : Aside0 (Below w.heap.size w w20) := ⟨h13_⟩
           clear BK101 HB h0_ h1_ h2_ h3_ h4_ h5_ h6_ h7_ h8_ h9_ h10_ h11_ h12_ h13_
           have BK101 := n0_
           have BK104 := n1_
           have BK105 := n2_
           have GW104 := n3_
           have GE104 := n4_
           have NB101_104 := n5_
           have NB104_101 := n6_
           have NB105_104 := n7_
           have NB104_105 := n8_
           have GW105 := n9_
           have GE105 := n10_
           have NB101_105 := n11_
           have NB105_101 := n12_
           have HB := n13_
           clear n0_ n1_ n2_ n3_ n4_ n5_ n6_ n7_ n8_ n9_ n10_ n11_ n12_ n13_
           have hHeld : w20.cell? ⟨gb101, 0, none⟩ = some (.slice (some ad102) l0_0.length c0_0) ∧ w20.cell? ⟨gb101, 1, none⟩ = some (.slice A0_1 l0_1.length c0_1) ∧ w20.cell? (ad102.add ((a1).toNat * 4)) = some (.int .i64 ((rd_T67 l0_0 a1).f0)) ∧ w20.cell? ⟨(ad102.add ((a1).toNat * 4)).block, (ad102.add ((a1).toNat * 4)).off + 1, none⟩ = some (.int .i64 ((rd_T67 l0_0 a1).f1)) ∧ w20.cell? ⟨(ad102.add ((a1).toNat * 4)).block, (ad102.add ((a1).toNat * 4)).off + 2, none⟩ = some (.int .i64 ((rd_T67 l0_0 a1).f2.f0)) ∧ w20.cell? ⟨(ad102.add ((a1).toNat * 4)).block, (ad102.add ((a1).toNat * 4)).off + 3, none⟩ = some (.int .i64 ((rd_T67 l0_0 a1).f2.f1)) ∧ w20.cell? (ad102.add ((a2).toNat * 4)) = some (.int .i64 ((rd_T67 l0_0 a2).f0)) ∧ w20.cell? ⟨(ad102.add ((a2).toNat * 4)).block, (ad102.add ((a2).toNat * 4)).off + 1, none⟩ = some (.int .i64 ((rd_T67 l0_0 a2).f1)) ∧ w20.cell? ⟨(ad102.add ((a2).toNat * 4)).block, (ad102.add ((a2).toNat * 4)).off + 2, none⟩ = some (.int .i64 ((rd_T67 l0_0 a2).f2.f0)) ∧ w20.cell? ⟨(ad102.add ((a2).toNat * 4)).block, (ad102.add ((a2).toNat * 4)).off + 3, none⟩ = some (.int .i64 ((rd_T67 l0_0 a2).f2.f1)) := hS_
           refine norm_ (a' := ?_) ?_ ?_
           rotate_left
           ·
            simp only [putAll, Act.put, List.setIfInBounds_toArray, List.set_cons_zero, List.set_cons_succ]
            rfl
           refine on 12 (fun K hK => ?_)
           have hs21 : w20.cell? ⟨gb104, 0, none⟩ = some (.int .i64 0) := (blk_cell BK104.out 0).trans rfl
           have hfs21 := blk_frozen BK104.out 0
           have hns21_0 := NB101_104.out
           have hns21_2 := NB105_104.out
           have hms21_0 := NB104_101.out
           have hms21_2 := NB104_105.out
           have hs22 : w20.cell? ⟨gb104, 1, none⟩ = some (.int .i64 0) := (blk_cell BK104.out 1).trans rfl
           have hfs22 := blk_frozen BK104.out 1
           have hns22_0 := NB101_104.out
           have hns22_2 := NB105_104.out
           have hms22_0 := NB104_101.out
           have hms22_2 := NB104_105.out
           have hs23 : w20.cell? ⟨gb104, 2, none⟩ = some (.int .i64 0) := (blk_cell BK104.out 2).trans rfl
           have hfs23 := blk_frozen BK104.out 2
           have hns23_0 := NB101_104.out
           have hns23_2 := NB105_104.out
           have hms23_0 := NB104_101.out
           have hms23_2 := NB104_105.out
           have hs24 : w20.cell? ⟨gb104, 3, none⟩ = some (.int .i64 0) := (blk_cell BK104.out 3).trans rfl
           have hfs24 := blk_frozen BK104.out 3
           have hns24_0 := NB101_104.out
           have hns24_2 := NB105_104.out
           have hms24_0 := NB104_101.out
           have hms24_2 := NB104_105.out
           refine skip_ (w1 := ?_) (by rfl) rfl ?_ ?_
           rotate_left
           ·
            go_simp
            rfl
           refine hK.out _ _ ⟨(cq NB101_104.out hHeld.1), (cq NB101_104.out hHeld.2.1), (cq (nF hw102_0 GW104) hHeld.2.2.1), (cq (nF hw102_1 GW104) hHeld.2.2.2.1), (cq (nF hw102_2 GW104) hHeld.2.2.2.2.1), (cq (nF hw102_3 GW104) hHeld.2.2.2.2.2.1), (cq (nF hw103_0 GW104) hHeld.2.2.2.2.2.2.1), (cq (nF hw103_1 GW104) hHeld.2.2.2.2.2.2.2.1), (cq (nF hw103_2 GW104) hHeld.2.2.2.2.2.2.2.2.1), (cq (nF hw103_3 GW104) hHeld.2.2.2.2.2.2.2.2.2)⟩ (fun hHeld => ?_)
           clear hK K
           refine on 13 (fun K hK => ?_)
           have hs25 : w20.cell? ⟨gb105, 0, none⟩ = some (.int .i64 0) := (blk_cell BK105.out 0).trans rfl
           have hfs25 := blk_frozen BK105.out 0
           have hns25_0 := NB101_105.out
           have hns25_1 := NB104_105.out
           have hms25_0 := NB105_101.out
           have hms25_1 := NB105_104.out
           have hs26 : w20.cell? ⟨gb105, 1, none⟩ = some (.int .i64 0) := (blk_cell BK105.out 1).trans rfl
           have hfs26 := blk_frozen BK105.out 1
           have hns26_0 := NB101_105.out
           have hns26_1 := NB104_105.out
           have hms26_0 := NB105_101.out
           have hms26_1 := NB105_104.out
           have hs27 : w20.cell? ⟨gb105, 2, none⟩ = some (.int .i64 0) := (blk_cell BK105.out 2).trans rfl
           have hfs27 := blk_frozen BK105.out 2
           have hns27_0 := NB101_105.out
           have hns27_1 := NB104_105.out
           have hms27_0 := NB105_101.out
           have hms27_1 := NB105_104.out
           have hs28 : w20.cell? ⟨gb105, 3, none⟩ = some (.int .i64 0) := (blk_cell BK105.out 3).trans rfl
           have hfs28 := blk_frozen BK105.out 3
           have hns28_0 := NB101_105.out
           have hns28_1 := NB104_105.out
           have hms28_0 := NB105_101.out
           have hms28_1 := NB105_104.out
           refine skip_ (w1 := ?_) (by rfl) rfl ?_ ?_
           rotate_left
           ·
            go_simp
            rfl
           refine hK.out _ _ ⟨(cq NB101_105.out hHeld.1), (cq NB101_105.out hHeld.2.1), (cq (nF hw102_0 GW105) hHeld.2.2.1), (cq (nF hw102_1 GW105) hHeld.2.2.2.1), (cq (nF hw102_2 GW105) hHeld.2.2.2.2.1), (cq (nF hw102_3 GW105) hHeld.2.2.2.2.2.1), (cq (nF hw103_0 GW105) hHeld.2.2.2.2.2.2.1), (cq (nF hw103_1 GW105) hHeld.2.2.2.2.2.2.2.1), (cq (nF hw103_2 GW105) hHeld.2.2.2.2.2.2.2.2.1), (cq (nF hw103_3 GW105) hHeld.2.2.2.2.2.2.2.2.2)⟩ (fun hHeld => ?_)
           clear hK K
           refine done_ (done_of HT_.out (by kernel_rfl)) ?_
           have hnb29 := NB104_101.out
           have hnc29 := NB101_104.out
           have hnb30 := NB104_105.out
           have hnc30 := NB105_104.out
           obtain ⟨_, _, _, _, _, _, _, _⟩ := cf4 BK104
           have hnb32 := NB105_101.out
           have hnc32 := NB101_105.out
           obtain ⟨_, _, _, _, _, _, _, _⟩ := cf4 BK105
           try go_wp2
           have n0_ : Aside0 (((((((((w20.setCell ⟨gb104, 0, none⟩ (.int .i64 ((rd_T67 l0_0 a1).f0))).setCell ⟨gb104, 1, none⟩ (.int .i64 ((rd_T67 l0_0 a1).f1))).setCell ⟨gb104, 2, none⟩ (.int .i64 ((rd_T67 l0_0 a1).f2.f0))).setCell ⟨gb104, 3, none⟩ (.int .i64 ((rd_T67 l0_0 a1).f2.f1))).setCell ⟨gb105, 0, none⟩ (.int .i64 ((rd_T67 l0_0 a2).f0))).setCell ⟨gb105, 1, none⟩ (.int .i64 ((rd_T67 l0_0 a2).f1))).setCell ⟨gb105, 2, none⟩ (.int .i64 ((rd_T67 l0_0 a2).f2.f0))).setCell ⟨gb105, 3, none⟩ (.int .i64 ((rd_T67 l0_0 a2).f2.f1))).heap[gb101]? = some (.cells #[.slice (some ad102) l0_0.length c0_0, .slice A0_1 l0_1.length c0_1] 25 (0, 0))) := ⟨by refine pB ?_; refine blk_far ?_ NB101_105.out _; refine pB ?_; refine blk_far ?_ NB101_105.out _; refine pB ?_; refine blk_far ?_ NB101_105.out _; refine pB ?_; refine blk_far ?_ NB101_105.out _; refine pB ?_; refine blk_far ?_ NB101_104.out _; refine pB ?_; refine blk_far ?_ NB101_104.out _; refine pB ?_; refine blk_far ?_ NB101_104.out _; refine pB ?_; refine blk_far ?_ NB101_104.out _; (with_reducible repeat (first | refine blk_drewN ?_ _ | refine blk_drew ?_ | refine blk_alloc ?_ _)); exact BK101.out⟩
           have n1_ : Aside0 (((((((((w20.setCell ⟨gb104, 0, none⟩ (.int .i64 ((rd_T67 l0_0 a1).f0))).setCell ⟨gb104, 1, none⟩ (.int .i64 ((rd_T67 l0_0 a1).f1))).setCell ⟨gb104, 2, none⟩ (.int .i64 ((rd_T67 l0_0 a1).f2.f0))).setCell ⟨gb104, 3, none⟩ (.int .i64 ((rd_T67 l0_0 a1).f2.f1))).setCell ⟨gb105, 0, none⟩ (.int .i64 ((rd_T67 l0_0 a2).f0))).setCell ⟨gb105, 1, none⟩ (.int .i64 ((rd_T67 l0_0 a2).f1))).setCell ⟨gb105, 2, none⟩ (.int .i64 ((rd_T67 l0_0 a2).f2.f0))).setCell ⟨gb105, 3, none⟩ (.int .i64 ((rd_T67 l0_0 a2).f2.f1))).heap[gb104]? = some (.cells #[.int .i64 ((rd_T67 l0_0 a1).f0), .int .i64 ((rd_T67 l0_0 a1).f1), .int .i64 ((rd_T67 l0_0 a1).f2.f0), .int .i64 ((rd_T67 l0_0 a1).f2.f1)] 67 (0, 0))) := ⟨by refine pB ?_; refine blk_far ?_ NB104_105.out _; refine pB ?_; refine blk_far ?_ NB104_105.out _; refine pB ?_; refine blk_far ?_ NB104_105.out _; refine pB ?_; refine blk_far ?_ NB104_105.out _; refine pB ?_; refine blk_put (cs := #[.int .i64 ((rd_T67 l0_0 a1).f0), .int .i64 ((rd_T67 l0_0 a1).f1), .int .i64 ((rd_T67 l0_0 a1).f2.f0), .int .i64 0]) ?_ 3 _ rfl; refine pB ?_; refine blk_put (cs := #[.int .i64 ((rd_T67 l0_0 a1).f0), .int .i64 ((rd_T67 l0_0 a1).f1), .int .i64 0, .int .i64 0]) ?_ 2 _ rfl; refine pB ?_; refine blk_put (cs := #[.int .i64 ((rd_T67 l0_0 a1).f0), .int .i64 0, .int .i64 0, .int .i64 0]) ?_ 1 _ rfl; refine pB ?_; refine blk_put (cs := #[.int .i64 0, .int .i64 0, .int .i64 0, .int .i64 0]) ?_ 0 _ rfl; (with_reducible repeat (first | refine blk_drewN ?_ _ | refine blk_drew ?_ | refine blk_alloc ?_ _)); exact BK104.out⟩
           have n2_ : Aside0 (((((((((w20.setCell ⟨gb104, 0, none⟩ (.int .i64 ((rd_T67 l0_0 a1).f0))).setCell ⟨gb104, 1, none⟩ (.int .i64 ((rd_T67 l0_0 a1).f1))).setCell ⟨gb104, 2, none⟩ (.int .i64 ((rd_T67 l0_0 a1).f2.f0))).setCell ⟨gb104, 3, none⟩ (.int .i64 ((rd_T67 l0_0 a1).f2.f1))).setCell ⟨gb105, 0, none⟩ (.int .i64 ((rd_T67 l0_0 a2).f0))).setCell ⟨gb105, 1, none⟩ (.int .i64 ((rd_T67 l0_0 a2).f1))).setCell ⟨gb105, 2, none⟩ (.int .i64 ((rd_T67 l0_0 a2).f2.f0))).setCell ⟨gb105, 3, none⟩ (.int .i64 ((rd_T67 l0_0 a2).f2.f1))).heap[gb105]? = some (.cells #[.int .i64 ((rd_T67 l0_0 a2).f0), .int .i64 ((rd_T67 l0_0 a2).f1), .int .i64 ((rd_T67 l0_0 a2).f2.f0), .int .i64 ((rd_T67 l0_0 a2).f2.f1)] 67 (0, 0))) := ⟨by refine pB ?_; refine blk_put (cs := #[.int .i64 ((rd_T67 l0_0 a2).f0), .int .i64 ((rd_T67 l0_0 a2).f1), .int .i64 ((rd_T67 l0_0 a2).f2.f0), .int .i64 0]) ?_ 3 _ rfl; refine pB ?_; refine blk_put (cs := #[.int .i64 ((rd_T67 l0_0 a2).f0), .int .i64 ((rd_T67 l0_0 a2).f1), .int .i64 0, .int .i64 0]) ?_ 2 _ rfl; refine pB ?_; refine blk_put (cs := #[.int .i64 ((rd_T67 l0_0 a2).f0), .int .i64 0, .int .i64 0, .int .i64 0]) ?_ 1 _ rfl; refine pB ?_; refine blk_put (cs := #[.int .i64 0, .int .i64 0, .int .i64 0, .int .i64 0]) ?_ 0 _ rfl; refine pB ?_; refine blk_far ?_ NB105_104.out _; refine pB ?_; refine blk_far ?_ NB105_104.out _; refine pB ?_; refine blk_far ?_ NB105_104.out _; refine pB ?_; refine blk_far ?_ NB105_104.out _; (with_reducible repeat (first | refine blk_drewN ?_ _ | refine blk_drew ?_ | refine blk_alloc ?_ _)); exact BK105.out⟩
           have n3_ : Aside0 (Below w.heap.size w ((((((((w20.setCell ⟨gb104, 0, none⟩ (.int .i64 ((rd_T67 l0_0 a1).f0))).setCell ⟨gb104, 1, none⟩ (.int .i64 ((rd_T67 l0_0 a1).f1))).setCell ⟨gb104, 2, none⟩ (.int .i64 ((rd_T67 l0_0 a1).f2.f0))).setCell ⟨gb104, 3, none⟩ (.int .i64 ((rd_T67 l0_0 a1).f2.f1))).setCell ⟨gb105, 0, none⟩ (.int .i64 ((rd_T67 l0_0 a2).f0))).setCell ⟨gb105, 1, none⟩ (.int .i64 ((rd_T67 l0_0 a2).f1))).setCell ⟨gb105, 2, none⟩ (.int .i64 ((rd_T67 l0_0 a2).f2.f0))).setCell ⟨gb105, 3, none⟩ (.int .i64 ((rd_T67 l0_0 a2).f2.f1)))) := ⟨pE HB⟩
           (try clear BK101)
           (try clear BK104)
           (try clear BK105)
           (try clear HB)
           generalize ((((((((w20.setCell ⟨gb104, 0, none⟩ (.int .i64 ((rd_T67 l0_0 a1).f0))).setCell ⟨gb104, 1, none⟩ (.int .i64 ((rd_T67 l0_0 a1).f1))).setCell ⟨gb104, 2, none⟩ (.int .i64 ((rd_T67 l0_0 a1).f2.f0))).setCell ⟨gb104, 3, none⟩ (.int .i64 ((rd_T67 l0_0 a1).f2.f1))).setCell ⟨gb105, 0, none⟩ (.int .i64 ((rd_T67 l0_0 a2).f0))).setCell ⟨gb105, 1, none⟩ (.int .i64 ((rd_T67 l0_0 a2).f1))).setCell ⟨gb105, 2, none⟩ (.int .i64 ((rd_T67 l0_0 a2).f2.f0))).setCell ⟨gb105, 3, none⟩ (.int .i64 ((rd_T67 l0_0 a2).f2.f1))) = w34 at n0_ n1_ n2_ n3_ ⊢
           have BK101 := n0_
           have BK104 := n1_
           have BK105 := n2_
           have HB := n3_
           clear n0_ n1_ n2_ n3_
           replace BK101 := Aside0.mk (blk_drew BK101.out)
           replace BK104 := Aside0.mk (blk_drew BK104.out)
           replace BK105 := Aside0.mk (blk_drew BK105.out)
           replace HB := Aside0.mk (below_drew1 HB.out)
           refine start_ (n := 8) (S := fun w' => w'.cell? ⟨gb101, 0, none⟩ = some (.slice (some ad102) l0_0.length c0_0) ∧ w'.cell? ⟨gb101, 1, none⟩ = some (.slice A0_1 l0_1.length c0_1)) (ds := []) #[false, false, false, false, false, false, false, false] (by kernel_rfl) rfl rfl ⟨(blk_cell BK101.out 0).trans rfl, (blk_cell BK101.out 1).trans rfl⟩ (fun hHeld => ?_); refine with_tabW walkmillref04_Before.tab4 walkmillref04_Before.bits4 (fun HT_ HW_ => ?_)
           generalize w34.drew = w35 at BK101 BK104 BK105 HB hHeld ⊢
           refine pu 1 32 ?_
           refine pu 4 35 ?_
           refine tk 0 31 hHeld ?_
           refine tk 3 34 hHeld ?_
           refine on 2 (fun K hK => ?_)
           refine gO Tryz.func98 #[.agg #[.slice (some ad102) l0_0.length c0_0, .slice A0_1 l0_1.length c0_1], .int .i64 a1] ?_
           with_reducible refine (walkmillref04_Earlier.calls k _ _ l0_0 _ _ l0_1 a1 t106 _ ?side1 ?side2 ?side3 ?side4 A9.out).mono ?_
           (case side1 => exact pC (Kd.C_below HR0_0.out HB.out))
           (case side2 => exact HC0_0.out)
           (case side3 => exact pC (Kd.C_below HR0_1.out HB.out))
           (case side4 => exact HC0_1.out)
           rintro e w36 ⟨rfl, hb⟩
           refine ⟨_, rfl, ?_⟩
           replace BK101 := bb BK101 hb
           replace BK104 := bb BK104 hb
           replace BK105 := bb BK105 hb
           replace HB := bs HB hb
           (try clear hb)
           (try clear hb2)
           (try clear hk)
           (try clear hi)
           refine hK.out _ _ ⟨(blk_cell BK101.out 0).trans rfl, (blk_cell BK101.out 1).trans rfl⟩ (fun hHeld => ?_)
           clear hK K
           refine norm_ (a' := ?_) ?_ ?_
           rotate_left
           ·
            show Act.put _ (some 33) _ = _
            simp only [Act.put, List.setIfInBounds_toArray, List.set_cons_zero, List.set_cons_succ, i64_w, i32_w]
            rfl
           refine on 5 (fun K hK => ?_)
           refine gO Tryz.func98 #[.agg #[.slice (some ad102) l0_0.length c0_0, .slice A0_1 l0_1.length c0_1], .int .i64 a2] ?_
           with_reducible refine (walkmillref04_Earlier.calls k _ _ l0_0 _ _ l0_1 a2 t107 _ ?side1 ?side2 ?side3 ?side4 A10.out).mono ?_
           (case side1 => exact pC (Kd.C_below HR0_0.out HB.out))
           (case side2 => exact HC0_0.out)
           (case side3 => exact pC (Kd.C_below HR0_1.out HB.out))
           (case side4 => exact HC0_1.out)
           rintro e w37 ⟨rfl, hb⟩
           refine ⟨_, rfl, ?_⟩
           replace BK101 := bb BK101 hb
           replace BK104 := bb BK104 hb
           replace BK105 := bb BK105 hb
           replace HB := bs HB hb
           (try clear hb)
           (try clear hb2)
           (try clear hk)
           (try clear hi)
           refine hK.out _ _ ⟨(blk_cell BK101.out 0).trans rfl, (blk_cell BK101.out 1).trans rfl⟩ (fun hHeld => ?_)
           clear hK K
           refine norm_ (a' := ?_) ?_ ?_
           rotate_left
           ·
            show Act.put _ (some 36) _ = _
            simp only [Act.put, List.setIfInBounds_toArray, List.set_cons_zero, List.set_cons_succ, i64_w, i32_w]
            rfl
           refine pu 6 9 ?_
           refine pu 7 10 ?_
           refine done_ (done_of HT_.out (by kernel_rfl)) ?_
           try go_wp2
           replace BK101 := Aside0.mk (blk_drew BK101.out)
           replace BK104 := Aside0.mk (blk_drew BK104.out)
           replace BK105 := Aside0.mk (blk_drew BK105.out)
           replace HB := Aside0.mk (below_drew1 HB.out)
           have p108 : 0 ≤ (((rd_T67 l0_0 a1).f0) : Int) := dT
           have q108 : ((rd_T67 l0_0 a1).f0) < (l0_1.length : Int) := dT
           obtain ⟨ad108, e108, hx108_0⟩ := Kd.at_int HR0_1.out ((rd_T67 l0_0 a1).f0) p108 q108
           have hw108_0 := hx108_0
           cases e108
           replace hx108_0 := cut_ HB hx108_0
           replace p108 := eq_true p108
           replace q108 := eq_true q108
           have p109 : 0 ≤ (((rd_T67 l0_0 a2).f0) : Int) := dT
           have q109 : ((rd_T67 l0_0 a2).f0) < (l0_1.length : Int) := dT
           obtain ⟨ad109, e109, hx109_0⟩ := Kd.at_int HR0_1.out ((rd_T67 l0_0 a2).f0) p109 q109
           have hw109_0 := hx109_0
           obtain rfl : ad108 = ad109 := (by injection e109)
           replace hx109_0 := cut_ HB hx109_0
           replace p109 := eq_true p109
           replace q109 := eq_true q109
           refine start_ (n := 14) (S := fun w' => w'.cell? ⟨gb101, 0, none⟩ = some (.slice (some ad102) l0_0.length c0_0) ∧ w'.cell? ⟨gb101, 1, none⟩ = some (.slice (some ad108) l0_1.length c0_1) ∧ w'.cell? ⟨gb104, 0, none⟩ = some (.int .i64 ((rd_T67 l0_0 a1).f0)) ∧ w'.cell? ⟨gb104, 1, none⟩ = some (.int .i64 ((rd_T67 l0_0 a1).f1)) ∧ w'.cell? ⟨gb104, 2, none⟩ = some (.int .i64 ((rd_T67 l0_0 a1).f2.f0)) ∧ w'.cell? ⟨gb104, 3, none⟩ = some (.int .i64 ((rd_T67 l0_0 a1).f2.f1)) ∧ w'.cell? ⟨gb105, 0, none⟩ = some (.int .i64 ((rd_T67 l0_0 a2).f0)) ∧ w'.cell? ⟨gb105, 1, none⟩ = some (.int .i64 ((rd_T67 l0_0 a2).f1)) ∧ w'.cell? ⟨gb105, 2, none⟩ = some (.int .i64 ((rd_T67 l0_0 a2).f2.f0)) ∧ w'.cell? ⟨gb105, 3, none⟩ = some (.int .i64 ((rd_T67 l0_0 a2).f2.f1)) ∧ w'.cell? (ad108.add (((rd_T67 l0_0 a1).f0)).toNat) = some (.int .i64 (rd l0_1 ((rd_T67 l0_0 a1).f0))) ∧ w'.cell? (ad108.add (((rd_T67 l0_0 a2).f0)).toNat) = some (.int .i64 (rd l0_1 ((rd_T67 l0_0 a2).f0)))) (ds := []) #[false, false, false, false, false, false, false, false, false, false, false, false, false, false] (by kernel_rfl) rfl rfl ⟨(blk_cell BK101.out 0).trans rfl, (blk_cell BK101.out 1).trans rfl, (blk_cell BK104.out 0).trans rfl, (blk_cell BK104.out 1).trans rfl, (blk_cell BK104.out 2).trans rfl, (blk_cell BK104.out 3).trans rfl, (blk_cell BK105.out 0).trans rfl, (blk_cell BK105.out 1).trans rfl, (blk_cell BK105.out 2).trans rfl, (blk_cell BK105.out 3).trans rfl, (cB HB hw108_0), (cB HB hw109_0)⟩ (fun hHeld => ?_); refine with_tabW walkmillref04_Before.tab7 walkmillref04_Before.bits7 (fun HT_ HW_ => ?_)
           generalize w37.drew = w38 at BK101 BK104 BK105 HB hx108_0 hx109_0 hHeld ⊢
           refine pu 0 43 ?_
           refine pu 2 45 ?_
           refine pu 6 49 ?_
           refine pu 8 51 ?_
           refine tk 1 44 hHeld ?_
           refine tk 3 46 hHeld ?_
           refine pu 4 47 ?_
           refine tk 5 48 hHeld ?_
           refine tk 7 50 hHeld ?_
           refine tk 9 52 hHeld ?_
           refine pu 10 53 ?_
           refine tk 11 54 hHeld ?_
           refine pu 12 55 ?_
           refine pu 13 6 ?_
           refine done_ (done_of HT_.out (by kernel_rfl)) ?_
           try go_wp2
           go_ret
           exact ⟨eT, pE HB⟩
          ·
           rw [if_neg c15] at H
           exact absurd H (by simp)
         ·
          rw [if_neg c14] at H
          exact absurd H (by simp)
        ·
         rw [if_neg c13] at H
         exact absurd H (by simp)
       ·
        rw [if_neg c12] at H
        exact absurd H (by simp)
      ·
       rw [if_neg c11] at H
       have c11b0 : (t106 == t107) = false := beq_eq_false_iff_ne.mpr c11
       have c11b1 : (t106 != t107) = true := bne_iff_ne.mpr c11
       obtain rfl := Option.some.inj H
       go_enter Tryz.func64, Tryz.ntmps64
       try go_wp2_with (first | ((with_reducible refine gate_dst (N := 3) rfl ?_); refine bx 3 #[.slice A0_0 l0_0.length c0_0, .slice A0_1 l0_1.length c0_1] 25 ?_; intro gb101 hg w39 hbox hb; have BK101 := hbox; have GW101 := gs HB hg; have GE101 := gs HB hg; replace HB := bs HB hb; clear hb hbox hg))
       replace BK101 := Aside0.mk (blk_drew BK101.out)
       replace HB := Aside0.mk (below_drew1 HB.out)
       have p102 : 0 ≤ (a1 : Int) := dT
       have q102 : a1 < (l0_0.length : Int) := dT
       obtain ⟨ad102, e102, hx102_0, hx102_1, hx102_2, hx102_3⟩ := at_T67 HR0_0.out a1 p102 q102
       have hw102_3 := hx102_3
       have hw102_2 := hx102_2
       have hw102_1 := hx102_1
       have hw102_0 := hx102_0
       cases e102
       replace hx102_0 := cut_ HB hx102_0
       replace hx102_1 := cut_ HB hx102_1
       replace hx102_2 := cut_ HB hx102_2
       replace hx102_3 := cut_ HB hx102_3
       replace p102 := eq_true p102
       replace q102 := eq_true q102
       have p103 : 0 ≤ (a2 : Int) := dT
       have q103 : a2 < (l0_0.length : Int) := dT
       obtain ⟨ad103, e103, hx103_0, hx103_1, hx103_2, hx103_3⟩ := at_T67 HR0_0.out a2 p103 q103
       have hw103_3 := hx103_3
       have hw103_2 := hx103_2
       have hw103_1 := hx103_1
       have hw103_0 := hx103_0
       obtain rfl : ad102 = ad103 := (by injection e103)
       replace hx103_0 := cut_ HB hx103_0
       replace hx103_1 := cut_ HB hx103_1
       replace hx103_2 := cut_ HB hx103_2
       replace hx103_3 := cut_ HB hx103_3
       replace p103 := eq_true p103
       replace q103 := eq_true q103
       refine start_ (n := 14) (S := fun w' => w'.cell? ⟨gb101, 0, none⟩ = some (.slice (some ad102) l0_0.length c0_0) ∧ w'.cell? ⟨gb101, 1, none⟩ = some (.slice A0_1 l0_1.length c0_1) ∧ w'.cell? (ad102.add ((a1).toNat * 4)) = some (.int .i64 ((rd_T67 l0_0 a1).f0)) ∧ w'.cell? ⟨(ad102.add ((a1).toNat * 4)).block, (ad102.add ((a1).toNat * 4)).off + 1, none⟩ = some (.int .i64 ((rd_T67 l0_0 a1).f1)) ∧ w'.cell? ⟨(ad102.add ((a1).toNat * 4)).block, (ad102.add ((a1).toNat * 4)).off + 2, none⟩ = some (.int .i64 ((rd_T67 l0_0 a1).f2.f0)) ∧ w'.cell? ⟨(ad102.add ((a1).toNat * 4)).block, (ad102.add ((a1).toNat * 4)).off + 3, none⟩ = some (.int .i64 ((rd_T67 l0_0 a1).f2.f1)) ∧ w'.cell? (ad102.add ((a2).toNat * 4)) = some (.int .i64 ((rd_T67 l0_0 a2).f0)) ∧ w'.cell? ⟨(ad102.add ((a2).toNat * 4)).block, (ad102.add ((a2).toNat * 4)).off + 1, none⟩ = some (.int .i64 ((rd_T67 l0_0 a2).f1)) ∧ w'.cell? ⟨(ad102.add ((a2).toNat * 4)).block, (ad102.add ((a2).toNat * 4)).off + 2, none⟩ = some (.int .i64 ((rd_T67 l0_0 a2).f2.f0)) ∧ w'.cell? ⟨(ad102.add ((a2).toNat * 4)).block, (ad102.add ((a2).toNat * 4)).off + 3, none⟩ = some (.int .i64 ((rd_T67 l0_0 a2).f2.f1))) (ds := []) #[false, false, false, false, false, false, false, false, false, false, false, false, false, false] (by kernel_rfl) rfl rfl ⟨(blk_cell BK101.out 0).trans rfl, (blk_cell BK101.out 1).trans rfl, (cB HB hw102_0), (cB HB hw102_1), (cB HB hw102_2), (cB HB hw102_3), (cB HB hw103_0), (cB HB hw103_1), (cB HB hw103_2), (cB HB hw103_3)⟩ (fun hHeld => ?_); refine with_tabW walkmillref04_Before.tab1 walkmillref04_Before.bits1 (fun HT_ HW_ => ?_)
       generalize w39.drew = w40 at BK101 HB hx102_0 hx102_1 hx102_2 hx102_3 hx103_0 hx103_1 hx103_2 hx103_3 hHeld ⊢
       refine pu 0 11 ?_
       refine pu 2 13 ?_
       refine pu 5 16 ?_
       refine pu 7 18 ?_
       refine tk 1 12 hHeld ?_
       refine pu 3 14 ?_
       refine tk 4 15 hHeld ?_
       refine tk 6 17 hHeld ?_
       refine pu 8 19 ?_
       refine tk 9 20 hHeld ?_
       refine join_ (σ := Nat × Nat) 2 #[true, true, true, true, true, true, true, true, true, true, true, true, false, false] (fun s_ => [(7, .pointer (some ⟨s_.1, 0, none⟩)), (8, .pointer (some ⟨s_.2, 0, none⟩))]) (fun s_ w' => (w'.cell? ⟨gb101, 0, none⟩ = some (.slice (some ad102) l0_0.length c0_0) ∧ w'.cell? ⟨gb101, 1, none⟩ = some (.slice A0_1 l0_1.length c0_1) ∧ w'.cell? (ad102.add ((a1).toNat * 4)) = some (.int .i64 ((rd_T67 l0_0 a1).f0)) ∧ w'.cell? ⟨(ad102.add ((a1).toNat * 4)).block, (ad102.add ((a1).toNat * 4)).off + 1, none⟩ = some (.int .i64 ((rd_T67 l0_0 a1).f1)) ∧ w'.cell? ⟨(ad102.add ((a1).toNat * 4)).block, (ad102.add ((a1).toNat * 4)).off + 2, none⟩ = some (.int .i64 ((rd_T67 l0_0 a1).f2.f0)) ∧ w'.cell? ⟨(ad102.add ((a1).toNat * 4)).block, (ad102.add ((a1).toNat * 4)).off + 3, none⟩ = some (.int .i64 ((rd_T67 l0_0 a1).f2.f1)) ∧ w'.cell? (ad102.add ((a2).toNat * 4)) = some (.int .i64 ((rd_T67 l0_0 a2).f0)) ∧ w'.cell? ⟨(ad102.add ((a2).toNat * 4)).block, (ad102.add ((a2).toNat * 4)).off + 1, none⟩ = some (.int .i64 ((rd_T67 l0_0 a2).f1)) ∧ w'.cell? ⟨(ad102.add ((a2).toNat * 4)).block, (ad102.add ((a2).toNat * 4)).off + 2, none⟩ = some (.int .i64 ((rd_T67 l0_0 a2).f2.f0)) ∧ w'.cell? ⟨(ad102.add ((a2).toNat * 4)).block, (ad102.add ((a2).toNat * 4)).off + 3, none⟩ = some (.int .i64 ((rd_T67 l0_0 a2).f2.f1))) ∧ (w'.heap[gb101]? = some (.cells #[.slice (some ad102) l0_0.length c0_0, .slice A0_1 l0_1.length c0_1] 25 (0, 0))) ∧ (w'.heap[s_.1]? = some (.cells #[.int .i64 0, .int .i64 0, .int .i64 0, .int .i64 0] 67 (0, 0))) ∧ (w'.heap[s_.2]? = some (.cells #[.int .i64 0, .int .i64 0, .int .i64 0, .int .i64 0] 67 (0, 0))) ∧ (w.heap.size ≤ s_.1) ∧ (w.heap.size ≤ s_.1) ∧ (gb101 ≠ s_.1) ∧ (s_.1 ≠ gb101) ∧ (s_.2 ≠ s_.1) ∧ (s_.1 ≠ s_.2) ∧ (w.heap.size ≤ s_.2) ∧ (w.heap.size ≤ s_.2) ∧ (gb101 ≠ s_.2) ∧ (s_.2 ≠ gb101) ∧ (Below w.heap.size w w')) ?_ ?_
       rotate_left
       ·
        intro hCont
        refine two_ (i := 10) (j := 11) (Ni := some 7) (Nj := some 8) #[true, true, true, true, true, true, true, true, true, true, true, false, false, false] #[true, true, true, true, true, true, true, true, true, true, false, true, false, false] rfl rfl rfl rfl (two_of HT_.out (by kernel_rfl)) (by decide) (by decide) (fun K hK => ?_) (fun K hK => ?_)
        ·
         skip
         refine box_step ?hg (N := 7) ?hd (cs := #[.int .i64 0, .int .i64 0, .int .i64 0, .int .i64 0]) (t := 67) ?hr ?_; (case hd => rfl); (case hg => rfl); (case hr => first | (go_simp; done) | (go_simp; rfl))
         intro gb104 hg w41 hbox hb
         have BK104 := Aside0.mk (hbox)
         have GW104 := gs HB hg
         have GE104 := gs HB hg
         replace HB := bs HB hb
         have NB101_104 := nl BK101 hg
         have NB104_101 := nr BK101 hg
         replace BK101 := bb BK101 hb
         clear hb hbox hg
         refine hK.out _ _ ⟨(blk_cell BK101.out 0).trans rfl, (blk_cell BK101.out 1).trans rfl, (cB HB hw102_0), (cB HB hw102_1), (cB HB hw102_2), (cB HB hw102_3), (cB HB hw103_0), (cB HB hw103_1), (cB HB hw103_2), (cB HB hw103_3)⟩ (fun hHeld => ?_)
         clear hK K
         refine norm_ (a' := ?_) ?_ ?_
         rotate_left
         ·
          show Act.put _ (some 7) _ = _
          simp only [Act.put, List.setIfInBounds_toArray, List.set_cons_zero, List.set_cons_succ, i64_w, i32_w]
          rfl
         refine on 11 (fun K hK => ?_)
         refine box_step ?hg (N := 8) ?hd (cs := #[.int .i64 0, .int .i64 0, .int .i64 0, .int .i64 0]) (t := 67) ?hr ?_; (case hd => rfl); (case hg => rfl); (case hr => first | (go_simp; done) | (go_simp; rfl))
         intro gb105 hg w42 hbox hb
         have BK105 := Aside0.mk (hbox)
         have GW105 := gs HB hg
         have GE105 := gs HB hg
         replace HB := bs HB hb
         have NB101_105 := nl BK101 hg
         have NB105_101 := nr BK101 hg
         replace BK101 := bb BK101 hb
         have NB104_105 := nl BK104 hg
         have NB105_104 := nr BK104 hg
         replace BK104 := bb BK104 hb
         clear hb hbox hg
         refine hK.out _ _ ⟨(blk_cell BK101.out 0).trans rfl, (blk_cell BK101.out 1).trans rfl, (cB HB hw102_0), (cB HB hw102_1), (cB HB hw102_2), (cB HB hw102_3), (cB HB hw103_0), (cB HB hw103_1), (cB HB hw103_2), (cB HB hw103_3)⟩ (fun hHeld => ?_)
         clear hK K
         refine norm_ (a' := ?_) ?_ ?_
         rotate_left
         ·
          show Act.put _ (some 8) _ = _
          simp only [Act.put, List.setIfInBounds_toArray, List.set_cons_zero, List.set_cons_succ, i64_w, i32_w]
          rfl
         exact norm_ (by simp only [putAll, Act.put, List.setIfInBounds_toArray, List.set_cons_zero, List.set_cons_succ]) (hCont (gb104, gb105) _ ⟨hHeld, (pB BK101.out), (pB BK104.out), (pB BK105.out), GW104.out, GE104.out, NB101_104.out, NB104_101.out, NB105_104.out, NB104_105.out, GW105.out, GE105.out, NB101_105.out, NB105_101.out, (pE HB)⟩)
        ·
         skip
         refine box_step ?hg (N := 8) ?hd (cs := #[.int .i64 0, .int .i64 0, .int .i64 0, .int .i64 0]) (t := 67) ?hr ?_; (case hd => rfl); (case hg => rfl); (case hr => first | (go_simp; done) | (go_simp; rfl))
         intro gb105 hg w41 hbox hb
         have BK105 := Aside0.mk (hbox)
         have GW105 := gs HB hg
         have GE105 := gs HB hg
         replace HB := bs HB hb
         have NB101_105 := nl BK101 hg
         have NB105_101 := nr BK101 hg
         replace BK101 := bb BK101 hb
         clear hb hbox hg
         refine hK.out _ _ ⟨(blk_cell BK101.out 0).trans rfl, (blk_cell BK101.out 1).trans rfl, (cB HB hw102_0), (cB HB hw102_1), (cB HB hw102_2), (cB HB hw102_3), (cB HB hw103_0), (cB HB hw103_1), (cB HB hw103_2), (cB HB hw103_3)⟩ (fun hHeld => ?_)
         clear hK K
         refine norm_ (a' := ?_) ?_ ?_
         rotate_left
         ·
          show Act.put _ (some 8) _ = _
          simp only [Act.put, List.setIfInBounds_toArray, List.set_cons_zero, List.set_cons_succ, i64_w, i32_w]
          rfl
         refine on 10 (fun K hK => ?_)
         refine box_step ?hg (N := 7) ?hd (cs := #[.int .i64 0, .int .i64 0, .int .i64 0, .int .i64 0]) (t := 67) ?hr ?_; (case hd => rfl); (case hg => rfl); (case hr => first | (go_simp; done) | (go_simp; rfl))
         intro gb104 hg w42 hbox hb
         have BK104 := Aside0.mk (hbox)
         have GW104 := gs HB hg
         have GE104 := gs HB hg
         replace HB := bs HB hb
         have NB101_104 := nl BK101 hg
         have NB104_101 := nr BK101 hg
         replace BK101 := bb BK101 hb
         have NB105_104 := nl BK105 hg
         have NB104_105 := nr BK105 hg
         replace BK105 := bb BK105 hb
         clear hb hbox hg
         refine hK.out _ _ ⟨(blk_cell BK101.out 0).trans rfl, (blk_cell BK101.out 1).trans rfl, (cB HB hw102_0), (cB HB hw102_1), (cB HB hw102_2), (cB HB hw102_3), (cB HB hw103_0), (cB HB hw103_1), (cB HB hw103_2), (cB HB hw103_3)⟩ (fun hHeld => ?_)
         clear hK K
         refine norm_ (a' := ?_) ?_ ?_
         rotate_left
         ·
          show Act.put _ (some 7) _ = _
          simp only [Act.put, List.setIfInBounds_toArray, List.set_cons_zero, List.set_cons_succ, i64_w, i32_w]
          rfl
         exact norm_ (by simp only [putAll, Act.put, List.setIfInBounds_toArray, List.set_cons_zero, List.set_cons_succ]) (hCont (gb104, gb105) _ ⟨hHeld, (pB BK101.out), (pB BK104.out), (pB BK105.out), GW104.out, GE104.out, NB101_104.out, NB104_101.out, NB105_104.out, NB104_105.out, GW105.out, GE105.out, NB101_105.out, NB105_101.out, (pE HB)⟩)
       rintro ⟨gb104, gb105⟩ w43 ⟨hS_, h0_, h1_, h2_, h3_, h4_, h5_, h6_, h7_, h8_, h9_, h10_, h11_, h12_, h13_⟩
       have n0_ : Aside0 (w43.heap[gb101]? = some (.cells #[.slice (some ad102) l0_0.length c0_0, .slice A0_1 l0_1.length c0_1] 25 (0, 0))) := ⟨h0_⟩
       have n1_ : Aside0 (w43.heap[gb104]? = some (.cells #[.int .i64 0, .int .i64 0, .int .i64 0, .int .i64 0] 67 (0, 0))) := ⟨h1_⟩
       have n2_ : Aside0 (w43.heap[gb105]? = some (.cells #[.int .i64 0, .int .i64 0, .int .i64 0, .int .i64 0] 67 (0, 0))) := ⟨h2_⟩
       have n3_ : Aside0 (w.heap.size ≤ gb104) := ⟨h3_⟩
       have n4_ : Aside0 (w.heap.size ≤ gb104) := ⟨h4_⟩
       have n5_ : Aside0 (gb101 ≠ gb104) := ⟨h5_⟩
       have n6_ : Aside0 (gb104 ≠ gb101) := ⟨h6_⟩
       have n7_ : Aside0 (gb105 ≠ gb104) := ⟨h7_⟩
       have n8_ : Aside0 (gb104 ≠ gb105) := ⟨h8_⟩
       have n9_ : Aside0 (w.heap.size ≤ gb105) := ⟨h9_⟩
       have n10_ : Aside0 (w.heap.size ≤ gb105) := ⟨h10_⟩
       have n11_ : Aside0 (gb101 ≠ gb105) := ⟨h11_⟩
       have n12_ : Aside0 (gb105 ≠ gb101) := ⟨h12_⟩
       have n13_ : Aside0 (Below w.heap.size w w43) := ⟨h13_⟩
       clear BK101 HB h0_ h1_ h2_ h3_ h4_ h5_ h6_ h7_ h8_ h9_ h10_ h11_ h12_ h13_
       have BK101 := n0_
       have BK104 := n1_
       have BK105 := n2_
       have GW104 := n3_
       have GE104 := n4_
       have NB101_104 := n5_
       have NB104_101 := n6_
       have NB105_104 := n7_
       have NB104_105 := n8_
       have GW105 := n9_
       have GE105 := n10_
       have NB101_105 := n11_
       have NB105_101 := n12_
       have HB := n13_
       clear n0_ n1_ n2_ n3_ n4_ n5_ n6_ n7_ n8_ n9_ n10_ n11_ n12_ n13_
       have hHeld : w43.cell? ⟨gb101, 0, none⟩ = some (.slice (some ad102) l0_0.length c0_0) ∧ w43.cell? ⟨gb101, 1, none⟩ = some (.slice A0_1 l0_1.length c0_1) ∧ w43.cell? (ad102.add ((a1).toNat * 4)) = some (.int .i64 ((rd_T67 l0_0 a1).f0)) ∧ w43.cell? ⟨(ad102.add ((a1).toNat * 4)).block, (ad102.add ((a1).toNat * 4)).off + 1, none⟩ = some (.int .i64 ((rd_T67 l0_0 a1).f1)) ∧ w43.cell? ⟨(ad102.add ((a1).toNat * 4)).block, (ad102.add ((a1).toNat * 4)).off + 2, none⟩ = some (.int .i64 ((rd_T67 l0_0 a1).f2.f0)) ∧ w43.cell? ⟨(ad102.add ((a1).toNat * 4)).block, (ad102.add ((a1).toNat * 4)).off + 3, none⟩ = some (.int .i64 ((rd_T67 l0_0 a1).f2.f1)) ∧ w43.cell? (ad102.add ((a2).toNat * 4)) = some (.int .i64 ((rd_T67 l0_0 a2).f0)) ∧ w43.cell? ⟨(ad102.add ((a2).toNat * 4)).block, (ad102.add ((a2).toNat * 4)).off + 1, none⟩ = some (.int .i64 ((rd_T67 l0_0 a2).f1)) ∧ w43.cell? ⟨(ad102.add ((a2).toNat * 4)).block, (ad102.add ((a2).toNat * 4)).off + 2, none⟩ = some (.int .i64 ((rd_T67 l0_0 a2).f2.f0)) ∧ w43.cell? ⟨(ad102.add ((a2).toNat * 4)).block, (ad102.add ((a2).toNat * 4)).off + 3, none⟩ = some (.int .i64 ((rd_T67 l0_0 a2).f2.f1)) := hS_
       refine norm_ (a' := ?_) ?_ ?_
       rotate_left
       ·
        simp only [putAll, Act.put, List.setIfInBounds_toArray, List.set_cons_zero, List.set_cons_succ]
        rfl
       refine on 12 (fun K hK => ?_)
       have hs44 : w43.cell? ⟨gb104, 0, none⟩ = some (.int .i64 0) := (blk_cell BK104.out 0).trans rfl
       have hfs44 := blk_frozen BK104.out 0
       have hns44_0 := NB101_104.out
       have hns44_2 := NB105_104.out
       have hms44_0 := NB104_101.out
       have hms44_2 := NB104_105.out
       have hs45 : w43.cell? ⟨gb104, 1, none⟩ = some (.int .i64 0) := (blk_cell BK104.out 1).trans rfl
       have hfs45 := blk_frozen BK104.out 1
       have hns45_0 := NB101_104.out
       have hns45_2 := NB105_104.out
       have hms45_0 := NB104_101.out
       have hms45_2 := NB104_105.out
       have hs46 : w43.cell? ⟨gb104, 2, none⟩ = some (.int .i64 0) := (blk_cell BK104.out 2).trans rfl
       have hfs46 := blk_frozen BK104.out 2
       have hns46_0 := NB101_104.out
       have hns46_2 := NB105_104.out
       have hms46_0 := NB104_101.out
       have hms46_2 := NB104_105.out
       have hs47 : w43.cell? ⟨gb104, 3, none⟩ = some (.int .i64 0) := (blk_cell BK104.out 3).trans rfl
       have hfs47 := blk_frozen BK104.out 3
       have hns47_0 := NB101_104.out
       have hns47_2 := NB105_104.out
       have hms47_0 := NB104_101.out
       have hms47_2 := NB104_105.out
       refine skip_ (w1 := ?_) (by rfl) rfl ?_ ?_
       rotate_left
       ·
        go_simp
        rfl
       refine hK.out _ _ ⟨(cq NB101_104.out hHeld.1), (cq NB101_104.out hHeld.2.1), (cq (nF hw102_0 GW104) hHeld.2.2.1), (cq (nF hw102_1 GW104) hHeld.2.2.2.1), (cq (nF hw102_2 GW104) hHeld.2.2.2.2.1), (cq (nF hw102_3 GW104) hHeld.2.2.2.2.2.1), (cq (nF hw103_0 GW104) hHeld.2.2.2.2.2.2.1), (cq (nF hw103_1 GW104) hHeld.2.2.2.2.2.2.2.1), (cq (nF hw103_2 GW104) hHeld.2.2.2.2.2.2.2.2.1), (cq (nF hw103_3 GW104) hHeld.2.2.2.2.2.2.2.2.2)⟩ (fun hHeld => ?_)
       clear hK K
       refine on 13 (fun K hK => ?_)
       have hs48 : w43.cell? ⟨gb105, 0, none⟩ = some (.int .i64 0) := (blk_cell BK105.out 0).trans rfl
       have hfs48 := blk_frozen BK105.out 0
       have hns48_0 := NB101_105.out
       have hns48_1 := NB104_105.out
       have hms48_0 := NB105_101.out
       have hms48_1 := NB105_104.out
       have hs49 : w43.cell? ⟨gb105, 1, none⟩ = some (.int .i64 0) := (blk_cell BK105.out 1).trans rfl
       have hfs49 := blk_frozen BK105.out 1
       have hns49_0 := NB101_105.out
       have hns49_1 := NB104_105.out
       have hms49_0 := NB105_101.out
       have hms49_1 := NB105_104.out
       have hs50 : w43.cell? ⟨gb105, 2, none⟩ = some (.int .i64 0) := (blk_cell BK105.out 2).trans rfl
       have hfs50 := blk_frozen BK105.out 2
       have hns50_0 := NB101_105.out
       have hns50_1 := NB104_105.out
       have hms50_0 := NB105_101.out
       have hms50_1 := NB105_104.out
       have hs51 : w43.cell? ⟨gb105, 3, none⟩ = some (.int .i64 0) := (blk_cell BK105.out 3).trans rfl
       have hfs51 := blk_frozen BK105.out 3
       have hns51_0 := NB101_105.out
       have hns51_1 := NB104_105.out
       have hms51_0 := NB105_101.out
       have hms51_1 := NB105_104.out
       refine skip_ (w1 := ?_) (by rfl) rfl ?_ ?_
       rotate_left
       ·
        go_simp
        rfl
       refine hK.out _ _ ⟨(cq NB101_105.out hHeld.1), (cq NB101_105.out hHeld.2.1), (cq (nF hw102_0 GW105) hHeld.2.2.1), (cq (nF hw102_1 GW105) hHeld.2.2.2.1), (cq (nF hw102_2 GW105) hHeld.2.2.2.2.1), (cq (nF hw102_3 GW105) hHeld.2.2.2.2.2.1), (cq (nF hw103_0 GW105) hHeld.2.2.2.2.2.2.1), (cq (nF hw103_1 GW105) hHeld.2.2.2.2.2.2.2.1), (cq (nF hw103_2 GW105) hHeld.2.2.2.2.2.2.2.2.1), (cq (nF hw103_3 GW105) hHeld.2.2.2.2.2.2.2.2.2)⟩ (fun hHeld => ?_)
       clear hK K
       refine done_ (done_of HT_.out (by kernel_rfl)) ?_
       have hnb52 := NB104_101.out
       have hnc52 := NB101_104.out
       have hnb53 := NB104_105.out
       have hnc53 := NB105_104.out
       obtain ⟨_, _, _, _, _, _, _, _⟩ := cf4 BK104
       have hnb55 := NB105_101.out
       have hnc55 := NB101_105.out
       obtain ⟨_, _, _, _, _, _, _, _⟩ := cf4 BK105
       try go_wp2
       have n0_ : Aside0 (((((((((w43.setCell ⟨gb104, 0, none⟩ (.int .i64 ((rd_T67 l0_0 a1).f0))).setCell ⟨gb104, 1, none⟩ (.int .i64 ((rd_T67 l0_0 a1).f1))).setCell ⟨gb104, 2, none⟩ (.int .i64 ((rd_T67 l0_0 a1).f2.f0))).setCell ⟨gb104, 3, none⟩ (.int .i64 ((rd_T67 l0_0 a1).f2.f1))).setCell ⟨gb105, 0, none⟩ (.int .i64 ((rd_T67 l0_0 a2).f0))).setCell ⟨gb105, 1, none⟩ (.int .i64 ((rd_T67 l0_0 a2).f1))).setCell ⟨gb105, 2, none⟩ (.int .i64 ((rd_T67 l0_0 a2).f2.f0))).setCell ⟨gb105, 3, none⟩ (.int .i64 ((rd_T67 l0_0 a2).f2.f1))).heap[gb101]? = some (.cells #[.slice (some ad102) l0_0.length c0_0, .slice A0_1 l0_1.length c0_1] 25 (0, 0))) := ⟨by refine pB ?_; refine blk_far ?_ NB101_105.out _; refine pB ?_; refine blk_far ?_ NB101_105.out _; refine pB ?_; refine blk_far ?_ NB101_105.out _; refine pB ?_; refine blk_far ?_ NB101_105.out _; refine pB ?_; refine blk_far ?_ NB101_104.out _; refine pB ?_; refine blk_far ?_ NB101_104.out _; refine pB ?_; refine blk_far ?_ NB101_104.out _; refine pB ?_; refine blk_far ?_ NB101_104.out _; (with_reducible repeat (first | refine blk_drewN ?_ _ | refine blk_drew ?_ | refine blk_alloc ?_ _)); exact BK101.out⟩
       have n1_ : Aside0 (((((((((w43.setCell ⟨gb104, 0, none⟩ (.int .i64 ((rd_T67 l0_0 a1).f0))).setCell ⟨gb104, 1, none⟩ (.int .i64 ((rd_T67 l0_0 a1).f1))).setCell ⟨gb104, 2, none⟩ (.int .i64 ((rd_T67 l0_0 a1).f2.f0))).setCell ⟨gb104, 3, none⟩ (.int .i64 ((rd_T67 l0_0 a1).f2.f1))).setCell ⟨gb105, 0, none⟩ (.int .i64 ((rd_T67 l0_0 a2).f0))).setCell ⟨gb105, 1, none⟩ (.int .i64 ((rd_T67 l0_0 a2).f1))).setCell ⟨gb105, 2, none⟩ (.int .i64 ((rd_T67 l0_0 a2).f2.f0))).setCell ⟨gb105, 3, none⟩ (.int .i64 ((rd_T67 l0_0 a2).f2.f1))).heap[gb104]? = some (.cells #[.int .i64 ((rd_T67 l0_0 a1).f0), .int .i64 ((rd_T67 l0_0 a1).f1), .int .i64 ((rd_T67 l0_0 a1).f2.f0), .int .i64 ((rd_T67 l0_0 a1).f2.f1)] 67 (0, 0))) := ⟨by refine pB ?_; refine blk_far ?_ NB104_105.out _; refine pB ?_; refine blk_far ?_ NB104_105.out _; refine pB ?_; refine blk_far ?_ NB104_105.out _; refine pB ?_; refine blk_far ?_ NB104_105.out _; refine pB ?_; refine blk_put (cs := #[.int .i64 ((rd_T67 l0_0 a1).f0), .int .i64 ((rd_T67 l0_0 a1).f1), .int .i64 ((rd_T67 l0_0 a1).f2.f0), .int .i64 0]) ?_ 3 _ rfl; refine pB ?_; refine blk_put (cs := #[.int .i64 ((rd_T67 l0_0 a1).f0), .int .i64 ((rd_T67 l0_0 a1).f1), .int .i64 0, .int .i64 0]) ?_ 2 _ rfl; refine pB ?_; refine blk_put (cs := #[.int .i64 ((rd_T67 l0_0 a1).f0), .int .i64 0, .int .i64 0, .int .i64 0]) ?_ 1 _ rfl; refine pB ?_; refine blk_put (cs := #[.int .i64 0, .int .i64 0, .int .i64 0, .int .i64 0]) ?_ 0 _ rfl; (with_reducible repeat (first | refine blk_drewN ?_ _ | refine blk_drew ?_ | refine blk_alloc ?_ _)); exact BK104.out⟩
       have n2_ : Aside0 (((((((((w43.setCell ⟨gb104, 0, none⟩ (.int .i64 ((rd_T67 l0_0 a1).f0))).setCell ⟨gb104, 1, none⟩ (.int .i64 ((rd_T67 l0_0 a1).f1))).setCell ⟨gb104, 2, none⟩ (.int .i64 ((rd_T67 l0_0 a1).f2.f0))).setCell ⟨gb104, 3, none⟩ (.int .i64 ((rd_T67 l0_0 a1).f2.f1))).setCell ⟨gb105, 0, none⟩ (.int .i64 ((rd_T67 l0_0 a2).f0))).setCell ⟨gb105, 1, none⟩ (.int .i64 ((rd_T67 l0_0 a2).f1))).setCell ⟨gb105, 2, none⟩ (.int .i64 ((rd_T67 l0_0 a2).f2.f0))).setCell ⟨gb105, 3, none⟩ (.int .i64 ((rd_T67 l0_0 a2).f2.f1))).heap[gb105]? = some (.cells #[.int .i64 ((rd_T67 l0_0 a2).f0), .int .i64 ((rd_T67 l0_0 a2).f1), .int .i64 ((rd_T67 l0_0 a2).f2.f0), .int .i64 ((rd_T67 l0_0 a2).f2.f1)] 67 (0, 0))) := ⟨by refine pB ?_; refine blk_put (cs := #[.int .i64 ((rd_T67 l0_0 a2).f0), .int .i64 ((rd_T67 l0_0 a2).f1), .int .i64 ((rd_T67 l0_0 a2).f2.f0), .int .i64 0]) ?_ 3 _ rfl; refine pB ?_; refine blk_put (cs := #[.int .i64 ((rd_T67 l0_0 a2).f0), .int .i64 ((rd_T67 l0_0 a2).f1), .int .i64 0, .int .i64 0]) ?_ 2 _ rfl; refine pB ?_; refine blk_put (cs := #[.int .i64 ((rd_T67 l0_0 a2).f0), .int .i64 0, .int .i64 0, .int .i64 0]) ?_ 1 _ rfl; refine pB ?_; refine blk_put (cs := #[.int .i64 0, .int .i64 0, .int .i64 0, .int .i64 0]) ?_ 0 _ rfl; refine pB ?_; refine blk_far ?_ NB105_104.out _; refine pB ?_; refine blk_far ?_ NB105_104.out _; refine pB ?_; refine blk_far ?_ NB105_104.out _; refine pB ?_; refine blk_far ?_ NB105_104.out _; (with_reducible repeat (first | refine blk_drewN ?_ _ | refine blk_drew ?_ | refine blk_alloc ?_ _)); exact BK105.out⟩
       have n3_ : Aside0 (Below w.heap.size w ((((((((w43.setCell ⟨gb104, 0, none⟩ (.int .i64 ((rd_T67 l0_0 a1).f0))).setCell ⟨gb104, 1, none⟩ (.int .i64 ((rd_T67 l0_0 a1).f1))).setCell ⟨gb104, 2, none⟩ (.int .i64 ((rd_T67 l0_0 a1).f2.f0))).setCell ⟨gb104, 3, none⟩ (.int .i64 ((rd_T67 l0_0 a1).f2.f1))).setCell ⟨gb105, 0, none⟩ (.int .i64 ((rd_T67 l0_0 a2).f0))).setCell ⟨gb105, 1, none⟩ (.int .i64 ((rd_T67 l0_0 a2).f1))).setCell ⟨gb105, 2, none⟩ (.int .i64 ((rd_T67 l0_0 a2).f2.f0))).setCell ⟨gb105, 3, none⟩ (.int .i64 ((rd_T67 l0_0 a2).f2.f1)))) := ⟨pE HB⟩
       (try clear BK101)
       (try clear BK104)
       (try clear BK105)
       (try clear HB)
       generalize ((((((((w43.setCell ⟨gb104, 0, none⟩ (.int .i64 ((rd_T67 l0_0 a1).f0))).setCell ⟨gb104, 1, none⟩ (.int .i64 ((rd_T67 l0_0 a1).f1))).setCell ⟨gb104, 2, none⟩ (.int .i64 ((rd_T67 l0_0 a1).f2.f0))).setCell ⟨gb104, 3, none⟩ (.int .i64 ((rd_T67 l0_0 a1).f2.f1))).setCell ⟨gb105, 0, none⟩ (.int .i64 ((rd_T67 l0_0 a2).f0))).setCell ⟨gb105, 1, none⟩ (.int .i64 ((rd_T67 l0_0 a2).f1))).setCell ⟨gb105, 2, none⟩ (.int .i64 ((rd_T67 l0_0 a2).f2.f0))).setCell ⟨gb105, 3, none⟩ (.int .i64 ((rd_T67 l0_0 a2).f2.f1))) = w57 at n0_ n1_ n2_ n3_ ⊢
       have BK101 := n0_
       have BK104 := n1_
       have BK105 := n2_
       have HB := n3_
       clear n0_ n1_ n2_ n3_
       replace BK101 := Aside0.mk (blk_drew BK101.out)
       replace BK104 := Aside0.mk (blk_drew BK104.out)
       replace BK105 := Aside0.mk (blk_drew BK105.out)
       replace HB := Aside0.mk (below_drew1 HB.out)
       refine start_ (n := 8) (S := fun w' => w'.cell? ⟨gb101, 0, none⟩ = some (.slice (some ad102) l0_0.length c0_0) ∧ w'.cell? ⟨gb101, 1, none⟩ = some (.slice A0_1 l0_1.length c0_1)) (ds := []) #[false, false, false, false, false, false, false, false] (by kernel_rfl) rfl rfl ⟨(blk_cell BK101.out 0).trans rfl, (blk_cell BK101.out 1).trans rfl⟩ (fun hHeld => ?_); refine with_tabW walkmillref04_Before.tab4 walkmillref04_Before.bits4 (fun HT_ HW_ => ?_)
       generalize w57.drew = w58 at BK101 BK104 BK105 HB hHeld ⊢
       refine pu 1 32 ?_
       refine pu 4 35 ?_
       refine tk 0 31 hHeld ?_
       refine tk 3 34 hHeld ?_
       refine on 2 (fun K hK => ?_)
       refine gO Tryz.func98 #[.agg #[.slice (some ad102) l0_0.length c0_0, .slice A0_1 l0_1.length c0_1], .int .i64 a1] ?_
       with_reducible refine (walkmillref04_Earlier.calls k _ _ l0_0 _ _ l0_1 a1 t106 _ ?side1 ?side2 ?side3 ?side4 A9.out).mono ?_
       (case side1 => exact pC (Kd.C_below HR0_0.out HB.out))
       (case side2 => exact HC0_0.out)
       (case side3 => exact pC (Kd.C_below HR0_1.out HB.out))
       (case side4 => exact HC0_1.out)
       rintro e w59 ⟨rfl, hb⟩
       refine ⟨_, rfl, ?_⟩
       replace BK101 := bb BK101 hb
       replace BK104 := bb BK104 hb
       replace BK105 := bb BK105 hb
       replace HB := bs HB hb
       (try clear hb)
       (try clear hb2)
       (try clear hk)
       (try clear hi)
       refine hK.out _ _ ⟨(blk_cell BK101.out 0).trans rfl, (blk_cell BK101.out 1).trans rfl⟩ (fun hHeld => ?_)
       clear hK K
       refine norm_ (a' := ?_) ?_ ?_
       rotate_left
       ·
        show Act.put _ (some 33) _ = _
        simp only [Act.put, List.setIfInBounds_toArray, List.set_cons_zero, List.set_cons_succ, i64_w, i32_w]
        rfl
       refine on 5 (fun K hK => ?_)
       refine gO Tryz.func98 #[.agg #[.slice (some ad102) l0_0.length c0_0, .slice A0_1 l0_1.length c0_1], .int .i64 a2] ?_
       with_reducible refine (walkmillref04_Earlier.calls k _ _ l0_0 _ _ l0_1 a2 t107 _ ?side1 ?side2 ?side3 ?side4 A10.out).mono ?_
       (case side1 => exact pC (Kd.C_below HR0_0.out HB.out))
       (case side2 => exact HC0_0.out)
       (case side3 => exact pC (Kd.C_below HR0_1.out HB.out))
       (case side4 => exact HC0_1.out)
       rintro e w60 ⟨rfl, hb⟩
       refine ⟨_, rfl, ?_⟩
       replace BK101 := bb BK101 hb
       replace BK104 := bb BK104 hb
       replace BK105 := bb BK105 hb
       replace HB := bs HB hb
       (try clear hb)
       (try clear hb2)
       (try clear hk)
       (try clear hi)
       refine hK.out _ _ ⟨(blk_cell BK101.out 0).trans rfl, (blk_cell BK101.out 1).trans rfl⟩ (fun hHeld => ?_)
       clear hK K
       refine norm_ (a' := ?_) ?_ ?_
       rotate_left
       ·
        show Act.put _ (some 36) _ = _
        simp only [Act.put, List.setIfInBounds_toArray, List.set_cons_zero, List.set_cons_succ, i64_w, i32_w]
        rfl
       refine pu 6 9 ?_
       refine pu 7 10 ?_
       refine done_ (done_of HT_.out (by kernel_rfl)) ?_
       try go_wp2
       go_ret
       exact ⟨eT, pE HB⟩
     ·
      rw [if_neg c8] at H
      have c8b0 : (((rd_T67 l0_0 a1).f1) == ((rd_T67 l0_0 a2).f1)) = false := beq_eq_false_iff_ne.mpr c8
      have c8b1 : (((rd_T67 l0_0 a1).f1) != ((rd_T67 l0_0 a2).f1)) = true := bne_iff_ne.mpr c8
      obtain rfl := Option.some.inj H
      go_enter Tryz.func64, Tryz.ntmps64
      try go_wp2_with (first | ((with_reducible refine gate_dst (N := 3) rfl ?_); refine bx 3 #[.slice A0_0 l0_0.length c0_0, .slice A0_1 l0_1.length c0_1] 25 ?_; intro gb101 hg w61 hbox hb; have BK101 := hbox; have GW101 := gs HB hg; have GE101 := gs HB hg; replace HB := bs HB hb; clear hb hbox hg))
      replace BK101 := Aside0.mk (blk_drew BK101.out)
      replace HB := Aside0.mk (below_drew1 HB.out)
      have p102 : 0 ≤ (a1 : Int) := dT
      have q102 : a1 < (l0_0.length : Int) := dT
      obtain ⟨ad102, e102, hx102_0, hx102_1, hx102_2, hx102_3⟩ := at_T67 HR0_0.out a1 p102 q102
      have hw102_3 := hx102_3
      have hw102_2 := hx102_2
      have hw102_1 := hx102_1
      have hw102_0 := hx102_0
      cases e102
      replace hx102_0 := cut_ HB hx102_0
      replace hx102_1 := cut_ HB hx102_1
      replace hx102_2 := cut_ HB hx102_2
      replace hx102_3 := cut_ HB hx102_3
      replace p102 := eq_true p102
      replace q102 := eq_true q102
      have p103 : 0 ≤ (a2 : Int) := dT
      have q103 : a2 < (l0_0.length : Int) := dT
      obtain ⟨ad103, e103, hx103_0, hx103_1, hx103_2, hx103_3⟩ := at_T67 HR0_0.out a2 p103 q103
      have hw103_3 := hx103_3
      have hw103_2 := hx103_2
      have hw103_1 := hx103_1
      have hw103_0 := hx103_0
      obtain rfl : ad102 = ad103 := (by injection e103)
      replace hx103_0 := cut_ HB hx103_0
      replace hx103_1 := cut_ HB hx103_1
      replace hx103_2 := cut_ HB hx103_2
      replace hx103_3 := cut_ HB hx103_3
      replace p103 := eq_true p103
      replace q103 := eq_true q103
      refine start_ (n := 14) (S := fun w' => w'.cell? ⟨gb101, 0, none⟩ = some (.slice (some ad102) l0_0.length c0_0) ∧ w'.cell? ⟨gb101, 1, none⟩ = some (.slice A0_1 l0_1.length c0_1) ∧ w'.cell? (ad102.add ((a1).toNat * 4)) = some (.int .i64 ((rd_T67 l0_0 a1).f0)) ∧ w'.cell? ⟨(ad102.add ((a1).toNat * 4)).block, (ad102.add ((a1).toNat * 4)).off + 1, none⟩ = some (.int .i64 ((rd_T67 l0_0 a1).f1)) ∧ w'.cell? ⟨(ad102.add ((a1).toNat * 4)).block, (ad102.add ((a1).toNat * 4)).off + 2, none⟩ = some (.int .i64 ((rd_T67 l0_0 a1).f2.f0)) ∧ w'.cell? ⟨(ad102.add ((a1).toNat * 4)).block, (ad102.add ((a1).toNat * 4)).off + 3, none⟩ = some (.int .i64 ((rd_T67 l0_0 a1).f2.f1)) ∧ w'.cell? (ad102.add ((a2).toNat * 4)) = some (.int .i64 ((rd_T67 l0_0 a2).f0)) ∧ w'.cell? ⟨(ad102.add ((a2).toNat * 4)).block, (ad102.add ((a2).toNat * 4)).off + 1, none⟩ = some (.int .i64 ((rd_T67 l0_0 a2).f1)) ∧ w'.cell? ⟨(ad102.add ((a2).toNat * 4)).block, (ad102.add ((a2).toNat * 4)).off + 2, none⟩ = some (.int .i64 ((rd_T67 l0_0 a2).f2.f0)) ∧ w'.cell? ⟨(ad102.add ((a2).toNat * 4)).block, (ad102.add ((a2).toNat * 4)).off + 3, none⟩ = some (.int .i64 ((rd_T67 l0_0 a2).f2.f1))) (ds := []) #[false, false, false, false, false, false, false, false, false, false, false, false, false, false] (by kernel_rfl) rfl rfl ⟨(blk_cell BK101.out 0).trans rfl, (blk_cell BK101.out 1).trans rfl, (cB HB hw102_0), (cB HB hw102_1), (cB HB hw102_2), (cB HB hw102_3), (cB HB hw103_0), (cB HB hw103_1), (cB HB hw103_2), (cB HB hw103_3)⟩ (fun hHeld => ?_); refine with_tabW walkmillref04_Before.tab1 walkmillref04_Before.bits1 (fun HT_ HW_ => ?_)
      generalize w61.drew = w62 at BK101 HB hx102_0 hx102_1 hx102_2 hx102_3 hx103_0 hx103_1 hx103_2 hx103_3 hHeld ⊢
      refine pu 0 11 ?_
      refine pu 2 13 ?_
      refine pu 5 16 ?_
      refine pu 7 18 ?_
      refine tk 1 12 hHeld ?_
      refine pu 3 14 ?_
      refine tk 4 15 hHeld ?_
      refine tk 6 17 hHeld ?_
      refine pu 8 19 ?_
      refine tk 9 20 hHeld ?_
      refine join_ (σ := Nat × Nat) 2 #[true, true, true, true, true, true, true, true, true, true, true, true, false, false] (fun s_ => [(7, .pointer (some ⟨s_.1, 0, none⟩)), (8, .pointer (some ⟨s_.2, 0, none⟩))]) (fun s_ w' => (w'.cell? ⟨gb101, 0, none⟩ = some (.slice (some ad102) l0_0.length c0_0) ∧ w'.cell? ⟨gb101, 1, none⟩ = some (.slice A0_1 l0_1.length c0_1) ∧ w'.cell? (ad102.add ((a1).toNat * 4)) = some (.int .i64 ((rd_T67 l0_0 a1).f0)) ∧ w'.cell? ⟨(ad102.add ((a1).toNat * 4)).block, (ad102.add ((a1).toNat * 4)).off + 1, none⟩ = some (.int .i64 ((rd_T67 l0_0 a1).f1)) ∧ w'.cell? ⟨(ad102.add ((a1).toNat * 4)).block, (ad102.add ((a1).toNat * 4)).off + 2, none⟩ = some (.int .i64 ((rd_T67 l0_0 a1).f2.f0)) ∧ w'.cell? ⟨(ad102.add ((a1).toNat * 4)).block, (ad102.add ((a1).toNat * 4)).off + 3, none⟩ = some (.int .i64 ((rd_T67 l0_0 a1).f2.f1)) ∧ w'.cell? (ad102.add ((a2).toNat * 4)) = some (.int .i64 ((rd_T67 l0_0 a2).f0)) ∧ w'.cell? ⟨(ad102.add ((a2).toNat * 4)).block, (ad102.add ((a2).toNat * 4)).off + 1, none⟩ = some (.int .i64 ((rd_T67 l0_0 a2).f1)) ∧ w'.cell? ⟨(ad102.add ((a2).toNat * 4)).block, (ad102.add ((a2).toNat * 4)).off + 2, none⟩ = some (.int .i64 ((rd_T67 l0_0 a2).f2.f0)) ∧ w'.cell? ⟨(ad102.add ((a2).toNat * 4)).block, (ad102.add ((a2).toNat * 4)).off + 3, none⟩ = some (.int .i64 ((rd_T67 l0_0 a2).f2.f1))) ∧ (w'.heap[gb101]? = some (.cells #[.slice (some ad102) l0_0.length c0_0, .slice A0_1 l0_1.length c0_1] 25 (0, 0))) ∧ (w'.heap[s_.1]? = some (.cells #[.int .i64 0, .int .i64 0, .int .i64 0, .int .i64 0] 67 (0, 0))) ∧ (w'.heap[s_.2]? = some (.cells #[.int .i64 0, .int .i64 0, .int .i64 0, .int .i64 0] 67 (0, 0))) ∧ (w.heap.size ≤ s_.1) ∧ (w.heap.size ≤ s_.1) ∧ (gb101 ≠ s_.1) ∧ (s_.1 ≠ gb101) ∧ (s_.2 ≠ s_.1) ∧ (s_.1 ≠ s_.2) ∧ (w.heap.size ≤ s_.2) ∧ (w.heap.size ≤ s_.2) ∧ (gb101 ≠ s_.2) ∧ (s_.2 ≠ gb101) ∧ (Below w.heap.size w w')) ?_ ?_
      rotate_left
      ·
       intro hCont
       refine two_ (i := 10) (j := 11) (Ni := some 7) (Nj := some 8) #[true, true, true, true, true, true, true, true, true, true, true, false, false, false] #[true, true, true, true, true, true, true, true, true, true, false, true, false, false] rfl rfl rfl rfl (two_of HT_.out (by kernel_rfl)) (by decide) (by decide) (fun K hK => ?_) (fun K hK => ?_)
       ·
        skip
        refine box_step ?hg (N := 7) ?hd (cs := #[.int .i64 0, .int .i64 0, .int .i64 0, .int .i64 0]) (t := 67) ?hr ?_; (case hd => rfl); (case hg => rfl); (case hr => first | (go_simp; done) | (go_simp; rfl))
        intro gb104 hg w63 hbox hb
        have BK104 := Aside0.mk (hbox)
        have GW104 := gs HB hg
        have GE104 := gs HB hg
        replace HB := bs HB hb
        have NB101_104 := nl BK101 hg
        have NB104_101 := nr BK101 hg
        replace BK101 := bb BK101 hb
        clear hb hbox hg
        refine hK.out _ _ ⟨(blk_cell BK101.out 0).trans rfl, (blk_cell BK101.out 1).trans rfl, (cB HB hw102_0), (cB HB hw102_1), (cB HB hw102_2), (cB HB hw102_3), (cB HB hw103_0), (cB HB hw103_1), (cB HB hw103_2), (cB HB hw103_3)⟩ (fun hHeld => ?_)
        clear hK K
        refine norm_ (a' := ?_) ?_ ?_
        rotate_left
        ·
         show Act.put _ (some 7) _ = _
         simp only [Act.put, List.setIfInBounds_toArray, List.set_cons_zero, List.set_cons_succ, i64_w, i32_w]
         rfl
        refine on 11 (fun K hK => ?_)
        refine box_step ?hg (N := 8) ?hd (cs := #[.int .i64 0, .int .i64 0, .int .i64 0, .int .i64 0]) (t := 67) ?hr ?_; (case hd => rfl); (case hg => rfl); (case hr => first | (go_simp; done) | (go_simp; rfl))
        intro gb105 hg w64 hbox hb
        have BK105 := Aside0.mk (hbox)
        have GW105 := gs HB hg
        have GE105 := gs HB hg
        replace HB := bs HB hb
        have NB101_105 := nl BK101 hg
        have NB105_101 := nr BK101 hg
        replace BK101 := bb BK101 hb
        have NB104_105 := nl BK104 hg
        have NB105_104 := nr BK104 hg
        replace BK104 := bb BK104 hb
        clear hb hbox hg
        refine hK.out _ _ ⟨(blk_cell BK101.out 0).trans rfl, (blk_cell BK101.out 1).trans rfl, (cB HB hw102_0), (cB HB hw102_1), (cB HB hw102_2), (cB HB hw102_3), (cB HB hw103_0), (cB HB hw103_1), (cB HB hw103_2), (cB HB hw103_3)⟩ (fun hHeld => ?_)
        clear hK K
        refine norm_ (a' := ?_) ?_ ?_
        rotate_left
        ·
         show Act.put _ (some 8) _ = _
         simp only [Act.put, List.setIfInBounds_toArray, List.set_cons_zero, List.set_cons_succ, i64_w, i32_w]
         rfl
        exact norm_ (by simp only [putAll, Act.put, List.setIfInBounds_toArray, List.set_cons_zero, List.set_cons_succ]) (hCont (gb104, gb105) _ ⟨hHeld, (pB BK101.out), (pB BK104.out), (pB BK105.out), GW104.out, GE104.out, NB101_104.out, NB104_101.out, NB105_104.out, NB104_105.out, GW105.out, GE105.out, NB101_105.out, NB105_101.out, (pE HB)⟩)
       ·
        skip
        refine box_step ?hg (N := 8) ?hd (cs := #[.int .i64 0, .int .i64 0, .int .i64 0, .int .i64 0]) (t := 67) ?hr ?_; (case hd => rfl); (case hg => rfl); (case hr => first | (go_simp; done) | (go_simp; rfl))
        intro gb105 hg w63 hbox hb
        have BK105 := Aside0.mk (hbox)
        have GW105 := gs HB hg
        have GE105 := gs HB hg
        replace HB := bs HB hb
        have NB101_105 := nl BK101 hg
        have NB105_101 := nr BK101 hg
        replace BK101 := bb BK101 hb
        clear hb hbox hg
        refine hK.out _ _ ⟨(blk_cell BK101.out 0).trans rfl, (blk_cell BK101.out 1).trans rfl, (cB HB hw102_0), (cB HB hw102_1), (cB HB hw102_2), (cB HB hw102_3), (cB HB hw103_0), (cB HB hw103_1), (cB HB hw103_2), (cB HB hw103_3)⟩ (fun hHeld => ?_)
        clear hK K
        refine norm_ (a' := ?_) ?_ ?_
        rotate_left
        ·
         show Act.put _ (some 8) _ = _
         simp only [Act.put, List.setIfInBounds_toArray, List.set_cons_zero, List.set_cons_succ, i64_w, i32_w]
         rfl
        refine on 10 (fun K hK => ?_)
        refine box_step ?hg (N := 7) ?hd (cs := #[.int .i64 0, .int .i64 0, .int .i64 0, .int .i64 0]) (t := 67) ?hr ?_; (case hd => rfl); (case hg => rfl); (case hr => first | (go_simp; done) | (go_simp; rfl))
        intro gb104 hg w64 hbox hb
        have BK104 := Aside0.mk (hbox)
        have GW104 := gs HB hg
        have GE104 := gs HB hg
        replace HB := bs HB hb
        have NB101_104 := nl BK101 hg
        have NB104_101 := nr BK101 hg
        replace BK101 := bb BK101 hb
        have NB105_104 := nl BK105 hg
        have NB104_105 := nr BK105 hg
        replace BK105 := bb BK105 hb
        clear hb hbox hg
        refine hK.out _ _ ⟨(blk_cell BK101.out 0).trans rfl, (blk_cell BK101.out 1).trans rfl, (cB HB hw102_0), (cB HB hw102_1), (cB HB hw102_2), (cB HB hw102_3), (cB HB hw103_0), (cB HB hw103_1), (cB HB hw103_2), (cB HB hw103_3)⟩ (fun hHeld => ?_)
        clear hK K
        refine norm_ (a' := ?_) ?_ ?_
        rotate_left
        ·
         show Act.put _ (some 7) _ = _
         simp only [Act.put, List.setIfInBounds_toArray, List.set_cons_zero, List.set_cons_succ, i64_w, i32_w]
         rfl
        exact norm_ (by simp only [putAll, Act.put, List.setIfInBounds_toArray, List.set_cons_zero, List.set_cons_succ]) (hCont (gb104, gb105) _ ⟨hHeld, (pB BK101.out), (pB BK104.out), (pB BK105.out), GW104.out, GE104.out, NB101_104.out, NB104_101.out, NB105_104.out, NB104_105.out, GW105.out, GE105.out, NB101_105.out, NB105_101.out, (pE HB)⟩)
      rintro ⟨gb104, gb105⟩ w65 ⟨hS_, h0_, h1_, h2_, h3_, h4_, h5_, h6_, h7_, h8_, h9_, h10_, h11_, h12_, h13_⟩
      have n0_ : Aside0 (w65.heap[gb101]? = some (.cells #[.slice (some ad102) l0_0.length c0_0, .slice A0_1 l0_1.length c0_1] 25 (0, 0))) := ⟨h0_⟩
      have n1_ : Aside0 (w65.heap[gb104]? = some (.cells #[.int .i64 0, .int .i64 0, .int .i64 0, .int .i64 0] 67 (0, 0))) := ⟨h1_⟩
      have n2_ : Aside0 (w65.heap[gb105]? = some (.cells #[.int .i64 0, .int .i64 0, .int .i64 0, .int .i64 0] 67 (0, 0))) := ⟨h2_⟩
      have n3_ : Aside0 (w.heap.size ≤ gb104) := ⟨h3_⟩
      have n4_ : Aside0 (w.heap.size ≤ gb104) := ⟨h4_⟩
      have n5_ : Aside0 (gb101 ≠ gb104) := ⟨h5_⟩
      have n6_ : Aside0 (gb104 ≠ gb101) := ⟨h6_⟩
      have n7_ : Aside0 (gb105 ≠ gb104) := ⟨h7_⟩
      have n8_ : Aside0 (gb104 ≠ gb105) := ⟨h8_⟩
      have n9_ : Aside0 (w.heap.size ≤ gb105) := ⟨h9_⟩
      have n10_ : Aside0 (w.heap.size ≤ gb105) := ⟨h10_⟩
      have n11_ : Aside0 (gb101 ≠ gb105) := ⟨h11_⟩
      have n12_ : Aside0 (gb105 ≠ gb101) := ⟨h12_⟩
      have n13_ : Aside0 (Below w.heap.size w w65) := ⟨h13_⟩
      clear BK101 HB h0_ h1_ h2_ h3_ h4_ h5_ h6_ h7_ h8_ h9_ h10_ h11_ h12_ h13_
      have BK101 := n0_
      have BK104 := n1_
      have BK105 := n2_
      have GW104 := n3_
      have GE104 := n4_
      have NB101_104 := n5_
      have NB104_101 := n6_
      have NB105_104 := n7_
      have NB104_105 := n8_
      have GW105 := n9_
      have GE105 := n10_
      have NB101_105 := n11_
      have NB105_101 := n12_
      have HB := n13_
      clear n0_ n1_ n2_ n3_ n4_ n5_ n6_ n7_ n8_ n9_ n10_ n11_ n12_ n13_
      have hHeld : w65.cell? ⟨gb101, 0, none⟩ = some (.slice (some ad102) l0_0.length c0_0) ∧ w65.cell? ⟨gb101, 1, none⟩ = some (.slice A0_1 l0_1.length c0_1) ∧ w65.cell? (ad102.add ((a1).toNat * 4)) = some (.int .i64 ((rd_T67 l0_0 a1).f0)) ∧ w65.cell? ⟨(ad102.add ((a1).toNat * 4)).block, (ad102.add ((a1).toNat * 4)).off + 1, none⟩ = some (.int .i64 ((rd_T67 l0_0 a1).f1)) ∧ w65.cell? ⟨(ad102.add ((a1).toNat * 4)).block, (ad102.add ((a1).toNat * 4)).off + 2, none⟩ = some (.int .i64 ((rd_T67 l0_0 a1).f2.f0)) ∧ w65.cell? ⟨(ad102.add ((a1).toNat * 4)).block, (ad102.add ((a1).toNat * 4)).off + 3, none⟩ = some (.int .i64 ((rd_T67 l0_0 a1).f2.f1)) ∧ w65.cell? (ad102.add ((a2).toNat * 4)) = some (.int .i64 ((rd_T67 l0_0 a2).f0)) ∧ w65.cell? ⟨(ad102.add ((a2).toNat * 4)).block, (ad102.add ((a2).toNat * 4)).off + 1, none⟩ = some (.int .i64 ((rd_T67 l0_0 a2).f1)) ∧ w65.cell? ⟨(ad102.add ((a2).toNat * 4)).block, (ad102.add ((a2).toNat * 4)).off + 2, none⟩ = some (.int .i64 ((rd_T67 l0_0 a2).f2.f0)) ∧ w65.cell? ⟨(ad102.add ((a2).toNat * 4)).block, (ad102.add ((a2).toNat * 4)).off + 3, none⟩ = some (.int .i64 ((rd_T67 l0_0 a2).f2.f1)) := hS_
      refine norm_ (a' := ?_) ?_ ?_
      rotate_left
      ·
       simp only [putAll, Act.put, List.setIfInBounds_toArray, List.set_cons_zero, List.set_cons_succ]
       rfl
      refine on 12 (fun K hK => ?_)
      have hs66 : w65.cell? ⟨gb104, 0, none⟩ = some (.int .i64 0) := (blk_cell BK104.out 0).trans rfl
      have hfs66 := blk_frozen BK104.out 0
      have hns66_0 := NB101_104.out
      have hns66_2 := NB105_104.out
      have hms66_0 := NB104_101.out
      have hms66_2 := NB104_105.out
      have hs67 : w65.cell? ⟨gb104, 1, none⟩ = some (.int .i64 0) := (blk_cell BK104.out 1).trans rfl
      have hfs67 := blk_frozen BK104.out 1
      have hns67_0 := NB101_104.out
      have hns67_2 := NB105_104.out
      have hms67_0 := NB104_101.out
      have hms67_2 := NB104_105.out
      have hs68 : w65.cell? ⟨gb104, 2, none⟩ = some (.int .i64 0) := (blk_cell BK104.out 2).trans rfl
      have hfs68 := blk_frozen BK104.out 2
      have hns68_0 := NB101_104.out
      have hns68_2 := NB105_104.out
      have hms68_0 := NB104_101.out
      have hms68_2 := NB104_105.out
      have hs69 : w65.cell? ⟨gb104, 3, none⟩ = some (.int .i64 0) := (blk_cell BK104.out 3).trans rfl
      have hfs69 := blk_frozen BK104.out 3
      have hns69_0 := NB101_104.out
      have hns69_2 := NB105_104.out
      have hms69_0 := NB104_101.out
      have hms69_2 := NB104_105.out
      refine skip_ (w1 := ?_) (by rfl) rfl ?_ ?_
      rotate_left
      ·
       go_simp
       rfl
      refine hK.out _ _ ⟨(cq NB101_104.out hHeld.1), (cq NB101_104.out hHeld.2.1), (cq (nF hw102_0 GW104) hHeld.2.2.1), (cq (nF hw102_1 GW104) hHeld.2.2.2.1), (cq (nF hw102_2 GW104) hHeld.2.2.2.2.1), (cq (nF hw102_3 GW104) hHeld.2.2.2.2.2.1), (cq (nF hw103_0 GW104) hHeld.2.2.2.2.2.2.1), (cq (nF hw103_1 GW104) hHeld.2.2.2.2.2.2.2.1), (cq (nF hw103_2 GW104) hHeld.2.2.2.2.2.2.2.2.1), (cq (nF hw103_3 GW104) hHeld.2.2.2.2.2.2.2.2.2)⟩ (fun hHeld => ?_)
      clear hK K
      refine on 13 (fun K hK => ?_)
      have hs70 : w65.cell? ⟨gb105, 0, none⟩ = some (.int .i64 0) := (blk_cell BK105.out 0).trans rfl
      have hfs70 := blk_frozen BK105.out 0
      have hns70_0 := NB101_105.out
      have hns70_1 := NB104_105.out
      have hms70_0 := NB105_101.out
      have hms70_1 := NB105_104.out
      have hs71 : w65.cell? ⟨gb105, 1, none⟩ = some (.int .i64 0) := (blk_cell BK105.out 1).trans rfl
      have hfs71 := blk_frozen BK105.out 1
      have hns71_0 := NB101_105.out
      have hns71_1 := NB104_105.out
      have hms71_0 := NB105_101.out
      have hms71_1 := NB105_104.out
      have hs72 : w65.cell? ⟨gb105, 2, none⟩ = some (.int .i64 0) := (blk_cell BK105.out 2).trans rfl
      have hfs72 := blk_frozen BK105.out 2
      have hns72_0 := NB101_105.out
      have hns72_1 := NB104_105.out
      have hms72_0 := NB105_101.out
      have hms72_1 := NB105_104.out
      have hs73 : w65.cell? ⟨gb105, 3, none⟩ = some (.int .i64 0) := (blk_cell BK105.out 3).trans rfl
      have hfs73 := blk_frozen BK105.out 3
      have hns73_0 := NB101_105.out
      have hns73_1 := NB104_105.out
      have hms73_0 := NB105_101.out
      have hms73_1 := NB105_104.out
      refine skip_ (w1 := ?_) (by rfl) rfl ?_ ?_
      rotate_left
      ·
       go_simp
       rfl
      refine hK.out _ _ ⟨(cq NB101_105.out hHeld.1), (cq NB101_105.out hHeld.2.1), (cq (nF hw102_0 GW105) hHeld.2.2.1), (cq (nF hw102_1 GW105) hHeld.2.2.2.1), (cq (nF hw102_2 GW105) hHeld.2.2.2.2.1), (cq (nF hw102_3 GW105) hHeld.2.2.2.2.2.1), (cq (nF hw103_0 GW105) hHeld.2.2.2.2.2.2.1), (cq (nF hw103_1 GW105) hHeld.2.2.2.2.2.2.2.1), (cq (nF hw103_2 GW105) hHeld.2.2.2.2.2.2.2.2.1), (cq (nF hw103_3 GW105) hHeld.2.2.2.2.2.2.2.2.2)⟩ (fun hHeld => ?_)
      clear hK K
      refine done_ (done_of HT_.out (by kernel_rfl)) ?_
      have hnb74 := NB104_101.out
      have hnc74 := NB101_104.out
      have hnb75 := NB104_105.out
      have hnc75 := NB105_104.out
      obtain ⟨_, _, _, _, _, _, _, _⟩ := cf4 BK104
      have hnb77 := NB105_101.out
      have hnc77 := NB101_105.out
      obtain ⟨_, _, _, _, _, _, _, _⟩ := cf4 BK105
      try go_wp2
      go_ret
      exact ⟨eT, pE HB⟩
    ·
     rw [if_neg c7] at H
     exact absurd H (by simp)
   ·
    rw [if_neg c6] at H
    exact absurd H (by simp)
  ·
   rw [if_neg c5] at H
   exact absurd H (by simp)
 ·
  rw [if_neg c4] at H
  exact absurd H (by simp)
mutual
def slices_insertionSortCmpFunc_int_at_turn_day_before_bound.l0 : Nat → List Int → Int → Int → Int → List (S67) → List Int → Option (List Int)
 | 0, _, _, _, _, _, _ => none
 | k + 1, x0, x1, x2, x8, x69000, x69001 => if x8 < x2 then (slices_insertionSortCmpFunc_int_at_turn_day_before_bound.l1 k x0 x1 x2 x8 x8 x69000 x69001) else (some x0)
def slices_insertionSortCmpFunc_int_at_turn_day_before_bound.l1 : Nat → List Int → Int → Int → Int → Int → List (S67) → List Int → Option (List Int)
 | 0, _, _, _, _, _, _, _ => none
 | k + 1, x0, x1, x2, x8, x9, x69000, x69001 => if x9 > x1 then (if 0 ≤ x9 then (if x9 < (x0.length : Int) then (if 0 ≤ (wrap64 (x9 - 1)) then (if (wrap64 (x9 - 1)) < (x0.length : Int) then ((turn_day_before.f k x69000 x69001 (rd x0 x9) (rd x0 (wrap64 (x9 - 1)))).bind fun t103 => (slices_insertionSortCmpFunc_int_at_turn_day_before_bound.j2 k x0 x1 x2 x8 x9 (decide (t103 < 0)) x69000 x69001)) else (none)) else (none)) else (none)) else (none)) else (slices_insertionSortCmpFunc_int_at_turn_day_before_bound.j2 k x0 x1 x2 x8 x9 false x69000 x69001)
def slices_insertionSortCmpFunc_int_at_turn_day_before_bound.j2 : Nat → List Int → Int → Int → Int → Int → Bool → List (S67) → List Int → Option (List Int)
 | 0, _, _, _, _, _, _, _, _ => none
 | k + 1, x0, x1, x2, x8, x9, x34, x69000, x69001 => if x34 = true then (if 0 ≤ (wrap64 (x9 - 1)) then (if (wrap64 (x9 - 1)) < (x0.length : Int) then (if 0 ≤ x9 then (if x9 < (x0.length : Int) then (slices_insertionSortCmpFunc_int_at_turn_day_before_bound.l1 k ((x0.set (x9 : Int).toNat (rd x0 (wrap64 (x9 - 1)))).set ((wrap64 (x9 - 1)) : Int).toNat (rd x0 x9)) x1 x2 x8 (wrap64 (x9 - 1)) x69000 x69001) else (none)) else (none)) else (none)) else (none)) else (slices_insertionSortCmpFunc_int_at_turn_day_before_bound.l0 k x0 x1 x2 (wrap64 (x8 + 1)) x69000 x69001)
end
def slices_insertionSortCmpFunc_int_at_turn_day_before_bound.f (k : Nat) (l0 : List Int) (a1 : Int) (a2 : Int) (l3_0 : List (S67)) (l3_1 : List Int) : Option (List Int) := slices_insertionSortCmpFunc_int_at_turn_day_before_bound.l0 k l0 a1 a2 (wrap64 (a1 + 1)) l3_0 l3_1
theorem slices_insertionSortCmpFunc_int_at_turn_day_before_bound.mono_l : ∀ k, (∀ y0 y1 y2 y3 y4 y5, LeO (slices_insertionSortCmpFunc_int_at_turn_day_before_bound.l0 k y0 y1 y2 y3 y4 y5) (slices_insertionSortCmpFunc_int_at_turn_day_before_bound.l0 (k + 1) y0 y1 y2 y3 y4 y5)) ∧ (∀ y0 y1 y2 y3 y4 y5 y6, LeO (slices_insertionSortCmpFunc_int_at_turn_day_before_bound.l1 k y0 y1 y2 y3 y4 y5 y6) (slices_insertionSortCmpFunc_int_at_turn_day_before_bound.l1 (k + 1) y0 y1 y2 y3 y4 y5 y6)) ∧ (∀ y0 y1 y2 y3 y4 y5 y6 y7, LeO (slices_insertionSortCmpFunc_int_at_turn_day_before_bound.j2 k y0 y1 y2 y3 y4 y5 y6 y7) (slices_insertionSortCmpFunc_int_at_turn_day_before_bound.j2 (k + 1) y0 y1 y2 y3 y4 y5 y6 y7))
 | 0 => ⟨fun _ _ _ _ _ _ r h => by simp [slices_insertionSortCmpFunc_int_at_turn_day_before_bound.l0] at h, fun _ _ _ _ _ _ _ r h => by simp [slices_insertionSortCmpFunc_int_at_turn_day_before_bound.l1] at h, fun _ _ _ _ _ _ _ _ r h => by simp [slices_insertionSortCmpFunc_int_at_turn_day_before_bound.j2] at h⟩
 | k + 1 => by
  obtain ⟨ih0, ih1, ih2⟩ := slices_insertionSortCmpFunc_int_at_turn_day_before_bound.mono_l k
  refine ⟨?_, ?_, ?_⟩
  ·intro y0 y1 y2 y3 y4 y5
   unfold slices_insertionSortCmpFunc_int_at_turn_day_before_bound.l0
   repeat' first
   | (with_reducible exact ih0 _ _ _ _ _ _)
   | (with_reducible exact ih1 _ _ _ _ _ _ _)
   | (with_reducible exact ih2 _ _ _ _ _ _ _ _)
   | (with_reducible exact turn_day_before.mono _ _ _ _ _)
   | (with_reducible exact LeO.refl _)
   | (with_reducible exact LeO.none _)
   | (with_reducible refine LeO.ite ?_ ?_)
   | (with_reducible refine LeO.bind ?_ (fun _ => ?_))
   | exact ih0 _ _ _ _ _ _
   | exact ih1 _ _ _ _ _ _ _
   | exact ih2 _ _ _ _ _ _ _ _
   | exact turn_day_before.mono _ _ _ _ _
   | exact LeO.none _
   | refine LeO.ite ?_ ?_
   | refine LeO.bind ?_ (fun _ => ?_)
  ·intro y0 y1 y2 y3 y4 y5 y6
   unfold slices_insertionSortCmpFunc_int_at_turn_day_before_bound.l1
   repeat' first
   | (with_reducible exact ih0 _ _ _ _ _ _)
   | (with_reducible exact ih1 _ _ _ _ _ _ _)
   | (with_reducible exact ih2 _ _ _ _ _ _ _ _)
   | (with_reducible exact turn_day_before.mono _ _ _ _ _)
   | (with_reducible exact LeO.refl _)
   | (with_reducible exact LeO.none _)
   | (with_reducible refine LeO.ite ?_ ?_)
   | (with_reducible refine LeO.bind ?_ (fun _ => ?_))
   | exact ih0 _ _ _ _ _ _
   | exact ih1 _ _ _ _ _ _ _
   | exact ih2 _ _ _ _ _ _ _ _
   | exact turn_day_before.mono _ _ _ _ _
   | exact LeO.none _
   | refine LeO.ite ?_ ?_
   | refine LeO.bind ?_ (fun _ => ?_)
  ·intro y0 y1 y2 y3 y4 y5 y6 y7
   unfold slices_insertionSortCmpFunc_int_at_turn_day_before_bound.j2
   repeat' first
   | (with_reducible exact ih0 _ _ _ _ _ _)
   | (with_reducible exact ih1 _ _ _ _ _ _ _)
   | (with_reducible exact ih2 _ _ _ _ _ _ _ _)
   | (with_reducible exact turn_day_before.mono _ _ _ _ _)
   | (with_reducible exact LeO.refl _)
   | (with_reducible exact LeO.none _)
   | (with_reducible refine LeO.ite ?_ ?_)
   | (with_reducible refine LeO.bind ?_ (fun _ => ?_))
   | exact ih0 _ _ _ _ _ _
   | exact ih1 _ _ _ _ _ _ _
   | exact ih2 _ _ _ _ _ _ _ _
   | exact turn_day_before.mono _ _ _ _ _
   | exact LeO.none _
   | refine LeO.ite ?_ ?_
   | refine LeO.bind ?_ (fun _ => ?_)
theorem slices_insertionSortCmpFunc_int_at_turn_day_before_bound.mono : ∀ a0 a1 a2 a3 a4 k, LeO (slices_insertionSortCmpFunc_int_at_turn_day_before_bound.f k a0 a1 a2 a3 a4) (slices_insertionSortCmpFunc_int_at_turn_day_before_bound.f (k + 1) a0 a1 a2 a3 a4) := by
 intro a0 a1 a2 a3 a4 k
 obtain ⟨ih0, ih1, ih2⟩ := slices_insertionSortCmpFunc_int_at_turn_day_before_bound.mono_l k
 unfold slices_insertionSortCmpFunc_int_at_turn_day_before_bound.f
 repeat' first
   | (with_reducible exact ih0 _ _ _ _ _ _)
   | (with_reducible exact ih1 _ _ _ _ _ _ _)
   | (with_reducible exact ih2 _ _ _ _ _ _ _ _)
   | (with_reducible exact turn_day_before.mono _ _ _ _ _)
   | (with_reducible exact LeO.refl _)
   | (with_reducible exact LeO.none _)
   | (with_reducible refine LeO.ite ?_ ?_)
   | (with_reducible refine LeO.bind ?_ (fun _ => ?_))
   | exact ih0 _ _ _ _ _ _
   | exact ih1 _ _ _ _ _ _ _
   | exact ih2 _ _ _ _ _ _ _ _
   | exact turn_day_before.mono _ _ _ _ _
   | exact LeO.none _
   | refine LeO.ite ?_ ?_
   | refine LeO.bind ?_ (fun _ => ?_)
def slices_insertionSortCmpFunc_int_at_turn_day_before_bound.T4 : Bool × List (List Nat × List Nat) := (true, [([], []), ([], []), ([0, 1], [0, 1]), ([2], [2]), ([3], [3]), ([3], [3]), ([3], [3]), ([5, 6, 3], [3, 5, 6]), ([7, 3], [3, 7]), ([3], [3]), ([3], [3]), ([10, 3], [3, 10]), ([9, 11, 3], [3, 9, 11]), ([12, 3], [3, 12]), ([4, 8, 13, 3, 3], [3, 4, 8, 13]), ([14, 3], [3, 14]), ([3, 15], [3, 15])])
def slices_insertionSortCmpFunc_int_at_turn_day_before_bound.B4 : List Nat := [0, 0, 3, 7, 15, 15, 15, 111, 239, 15, 15, 1039, 3599, 7695, 16383, 32767, 65535]
theorem slices_insertionSortCmpFunc_int_at_turn_day_before_bound.tab4 : rtab .any (opsOf Tryz.f125 4) = slices_insertionSortCmpFunc_int_at_turn_day_before_bound.T4 := by kernel_rfl
theorem slices_insertionSortCmpFunc_int_at_turn_day_before_bound.bits4 : waitsOk slices_insertionSortCmpFunc_int_at_turn_day_before_bound.T4.2 slices_insertionSortCmpFunc_int_at_turn_day_before_bound.B4 = true := by kernel_rfl
def slices_insertionSortCmpFunc_int_at_turn_day_before_bound.T6 : Bool × List (List Nat × List Nat) := (true, [([], []), ([], []), ([], []), ([], []), ([3], [3]), ([], []), ([], []), ([6], [6]), ([5, 7], [5, 7]), ([8], [8]), ([], []), ([], []), ([10, 11], [10, 11]), ([12], [12]), ([0, 1, 0, 1, 5, 6, 7, 8, 9, 13], [0, 1]), ([14, 9, 0, 1, 5, 6, 7, 8, 9, 13], [9, 14]), ([2, 4, 0, 1, 2, 3, 4, 5, 6, 7, 8, 9, 10, 11, 12, 13, 14, 15], [2, 4]), ([16, 13, 15, 0, 1, 2, 3, 4, 5, 6, 7, 8, 9, 10, 11, 12, 13, 14, 15], [13, 16])])
def slices_insertionSortCmpFunc_int_at_turn_day_before_bound.B6 : List Nat := [0, 0, 0, 0, 8, 0, 0, 64, 224, 480, 0, 0, 3072, 7168, 16355, 32739, 65535, 131071]
theorem slices_insertionSortCmpFunc_int_at_turn_day_before_bound.tab6 : rtab .any (opsOf Tryz.f125 6) = slices_insertionSortCmpFunc_int_at_turn_day_before_bound.T6 := by kernel_rfl
theorem slices_insertionSortCmpFunc_int_at_turn_day_before_bound.bits6 : waitsOk slices_insertionSortCmpFunc_int_at_turn_day_before_bound.T6.2 slices_insertionSortCmpFunc_int_at_turn_day_before_bound.B6 = true := by kernel_rfl
set_option maxHeartbeats 8000000 in
set_option maxRecDepth 100000 in
theorem slices_insertionSortCmpFunc_int_at_turn_day_before_bound.calls (k : Nat) (P0_ : Nat → Prop) (u9000_ : Value) (l0 : List Int) (a1 : Int) (a2 : Int) (A3_0 : Option Addr) (c3_0 : Nat) (l3_0 : List (S67)) (A3_1 : Option Addr) (c3_1 : Nat) (l3_1 : List Int) (r : List Int) (w0 w : World) (hB : Below w0.heap.size w0 w) (ho0 : Kd.R (Kd.int .i64) 3 w w0.heap.size P0_ u9000_ l0) (hr3_0 : ∀ W_, Kept w W_ (fun k_ => P0_ k_) → Kd.C k67 W_ A3_0 l3_0.length l3_0) (hc3_0 : l3_0.length ≤ c3_0) (hr3_1 : ∀ W_, Kept w W_ (fun k_ => P0_ k_) → Kd.C (Kd.int .i64) W_ A3_1 l3_1.length l3_1) (hc3_1 : l3_1.length ≤ c3_1) (h : slices_insertionSortCmpFunc_int_at_turn_day_before_bound.f k l0 a1 a2 l3_0 l3_1 = some r) :
  Calls Tryz.prog 125 #[u9000_, .int .i64 a1, .int .i64 a2, .func (.func 80) #[.agg #[.slice A3_0 l3_0.length c3_0, .slice A3_1 l3_1.length c3_1]] #[]] w fun e w' => e = .returned (.tuple #[]) ∧ Kd.R (Kd.int .i64) 3 w' w0.heap.size (fun k_ => (P0_ k_ ∨ w.heap.size ≤ k_)) u9000_ r ∧ Below w0.heap.size w0 w' ∧ Kept w w' (fun k_ => P0_ k_) := by
 have HO0 := Aside0.mk (show Kd.R (Kd.int .i64) 3 w w0.heap.size (fun k_ => (P0_ k_ ∨ w.heap.size ≤ k_)) u9000_ l0 from Kd.R_mono ho0 (fun k_ hk => (.inl hk)))
 have HR3_0 := Aside0.mk hr3_0
 have HC3_0 := Aside0.mk hc3_0
 clear hr3_0 hc3_0
 have HR3_1 := Aside0.mk hr3_1
 have HC3_1 := Aside0.mk hc3_1
 clear hr3_1 hc3_1
 have HK := Aside0.mk (Kept.refl w (fun k_ => P0_ k_))
 have HW0 := Aside0.mk hB.size
 have HB := Aside0.mk hB
 clear hB
 have H : (slices_insertionSortCmpFunc_int_at_turn_day_before_bound.l0 k l0 a1 a2 (wrap64 (a1 + 1)) l3_0 l3_1) = some r := h
 clear h
 have H' := Aside0.mk H
 clear H
 go_enter Tryz.func125, Tryz.ntmps125
 go_wp2
 (try simp only [Act.put, List.setIfInBounds_toArray, List.set_cons_zero, List.set_cons_succ])
 go_loopg [8] k (fun kq v8 w' => ∃ (x0_1 : List Int) (x8_1 : Int), v8 = .int .i64 x8_1 ∧ Aside0 (slices_insertionSortCmpFunc_int_at_turn_day_before_bound.l0 kq x0_1 a1 a2 x8_1 l3_0 l3_1 = some r) ∧ Aside0 (kq ≤ k) ∧ Aside0 (Kd.R (Kd.int .i64) 3 w' w0.heap.size (fun k_ => (P0_ k_ ∨ w.heap.size ≤ k_)) u9000_ x0_1) ∧ Aside0 (Kept w w' (fun k_ => P0_ k_)) ∧ Aside0 (Below w0.heap.size w0 w'))
 case atStart => exact ⟨(l0), (wrap64 (a1 + 1)), (by first | rfl | (simp; done) | (simp [*]; done)), H', ⟨Nat.le_refl _⟩, ⟨by (with_reducible repeat (first | apply Kd.R_alloc | apply Kd.R_drewN | apply Kd.R_drew)); exact HO0.out⟩, ⟨by repeat (first | (with_reducible first | exact HK.out | apply Kept.alloc | apply Kept.drewN | apply Kept.drew) | exact HK.out)⟩, ⟨pE HB⟩⟩
 case round =>
  clear H'
  try clear p2
  try clear c3
  obtain ⟨x0_1, x8_1, rfl, HA, HK1, HO_0, HK, HB⟩ := hrel
  cases gk with
  | zero => exact absurd HA.out (by simp [slices_insertionSortCmpFunc_int_at_turn_day_before_bound.l0])
  | succ k1 =>
   have H := HA.out
   clear HA
   simp only [slices_insertionSortCmpFunc_int_at_turn_day_before_bound.l0] at H
   by_cases c5 : x8_1 < a2
   ·rw [if_pos c5] at H
    have c5b0 : decide (x8_1 < a2) = true := decide_eq_true c5
    clear c5
    have H' := Aside0.mk H
    clear H
    go_wp2
    (try simp only [Act.put, List.setIfInBounds_toArray, List.set_cons_zero, List.set_cons_succ])
    go_loopg [9] k1 (fun kq v9 w' => ∃ (x0_2 : List Int) (x9_2 : Int), v9 = .int .i64 x9_2 ∧ Aside0 (slices_insertionSortCmpFunc_int_at_turn_day_before_bound.l1 kq x0_2 a1 a2 x8_1 x9_2 l3_0 l3_1 = some r) ∧ Aside0 (kq ≤ k1) ∧ Aside0 (Kd.R (Kd.int .i64) 3 w' w0.heap.size (fun k_ => (P0_ k_ ∨ w.heap.size ≤ k_)) u9000_ x0_2) ∧ Aside0 (Kept w w' (fun k_ => P0_ k_)) ∧ Aside0 (Below w0.heap.size w0 w'))
    case atStart => exact ⟨(x0_1), (x8_1), (by first | rfl | (simp; done) | (simp [*]; done)), H', ⟨Nat.le_refl _⟩, ⟨by (with_reducible repeat (first | apply Kd.R_alloc | apply Kd.R_drewN | apply Kd.R_drew)); exact HO_0.out⟩, ⟨by repeat (first | (with_reducible first | exact HK.out | apply Kept.alloc | apply Kept.drewN | apply Kept.drew) | exact HK.out)⟩, ⟨pE HB⟩⟩
    case round =>
     clear H'
     try clear p2
     try clear c3
     try clear c5
     try clear c5b0
     try clear p2
     obtain ⟨x0_2, x9_2, rfl, HA, HK2, HO_0, HK, HB⟩ := hrel
     cases gk with
     | zero => exact absurd HA.out (by simp [slices_insertionSortCmpFunc_int_at_turn_day_before_bound.l1])
     | succ k2 =>
      have H := HA.out
      clear HA
      simp only [slices_insertionSortCmpFunc_int_at_turn_day_before_bound.l1] at H
      have HC6 := Aside0.mk H
      clear H
      go_upto_region 4 with (fail)
      go_cut [34] (fun v34 wc => ∃ (kq : Nat) (x34_5 : Bool), v34 = .bool x34_5 ∧ Aside0 (slices_insertionSortCmpFunc_int_at_turn_day_before_bound.j2 kq x0_2 a1 a2 x8_1 x9_2 x34_5 l3_0 l3_1 = some r) ∧ Aside0 (kq ≤ k2) ∧ Aside0 (Kd.R (Kd.int .i64) 3 wc w0.heap.size (fun k_ => (P0_ k_ ∨ w.heap.size ≤ k_)) u9000_ x0_2) ∧ Aside0 (Kept w wc (fun k_ => P0_ k_)) ∧ Aside0 (Below w0.heap.size w0 wc))
      case first =>
       have H := HC6.out
       clear HC6
       by_cases c7 : x9_2 > a1
       ·rw [if_pos c7] at H
        have c7b0 : decide (a1 < x9_2) = true := decide_eq_true c7
        clear c7
        (first | rw [c7b0] | (simp only [i64_w, i32_w]; rw [c7b0]) | skip)
        by_cases c8 : 0 ≤ x9_2
        ·rw [if_pos c8] at H
         have c8b0 : decide (0 ≤ x9_2) = true := decide_eq_true c8
         clear c8
         by_cases c9 : x9_2 < (x0_2.length : Int)
         ·rw [if_pos c9] at H
          have c9b0 : decide (x9_2 < (x0_2.length : Int)) = true := decide_eq_true c9
          clear c9
          obtain ⟨ji10, hji10⟩ : ∃ j_ : Int, (wrap64 (x9_2 - 1)) = j_ := ⟨_, rfl⟩
          replace H : (if 0 ≤ (ji10) then (if (ji10) < (x0_2.length : Int) then ((turn_day_before.f k2 l3_0 l3_1 (rd x0_2 x9_2) (rd x0_2 (ji10))).bind fun t103 => (slices_insertionSortCmpFunc_int_at_turn_day_before_bound.j2 k2 x0_2 a1 a2 x8_1 x9_2 (decide (t103 < 0)) l3_0 l3_1)) else (none)) else (none)) = some r := by first | (rw [hji10] at H; exact H) | (simp only [hji10] at H ⊢; exact H)
          have hji10w : (IntKind.i64.wrap (x9_2 - 1)) = ji10 := (i64_w _).trans hji10
          by_cases c11 : 0 ≤ (ji10)
          ·rw [if_pos c11] at H
           have c11b0 : decide (0 ≤ (ji10)) = true := decide_eq_true c11
           clear c11
           by_cases c12 : (ji10) < (x0_2.length : Int)
           ·rw [if_pos c12] at H
            have c12b0 : decide ((ji10) < (x0_2.length : Int)) = true := decide_eq_true c12
            clear c12
            obtain ⟨t103, A13, H⟩ := bi H
            have H' := Aside0.mk H
            clear H
            try go_wp2
            replace HO_0 := Aside0.mk (Kd.R_drew HO_0.out)
            replace HK := Aside0.mk (Kept.drew HK.out)
            replace HB := Aside0.mk (below_drew1 HB.out)
            obtain ⟨Ao15, co15, eo15⟩ := Kd.R_slice HO_0.out
            (first | subst eo15 | (injection eo15 with f1_ f2_ f3_; have f4_ := f1_.symm; have f5_ := f3_.symm; clear f1_ f2_ f3_; subst f4_; subst f5_))
            have p101 : 0 ≤ (x9_2 : Int) := dT
            have q101 : x9_2 < (x0_2.length : Int) := dT
            obtain ⟨ad101, e101, hx101_0⟩ := Kd.at_int (Kd.R_reads' HO_0.out).2.2 x9_2 p101 q101
            cases e101
            replace p101 := eq_true p101
            replace q101 := eq_true q101
            have p102 : 0 ≤ ((ji10) : Int) := dT
            have q102 : (ji10) < (x0_2.length : Int) := dT
            obtain ⟨ad102, e102, hx102_0⟩ := Kd.at_int (Kd.R_reads' HO_0.out).2.2 (ji10) p102 q102
            obtain rfl : ad101 = ad102 := (by injection e102)
            replace p102 := eq_true p102
            replace q102 := eq_true q102
            refine start_ (n := 17) (S := fun w' => w'.cell? (ad101.add (x9_2).toNat) = some (.int .i64 (rd x0_2 x9_2)) ∧ w'.cell? (ad101.add ((ji10)).toNat) = some (.int .i64 (rd x0_2 (ji10)))) (ds := []) #[false, false, false, false, false, false, false, false, false, false, false, false, false, false, false, false, false] (by kernel_rfl) rfl rfl ⟨hx101_0, hx102_0⟩ (fun hHeld => ?_); refine with_tabW slices_insertionSortCmpFunc_int_at_turn_day_before_bound.tab4 slices_insertionSortCmpFunc_int_at_turn_day_before_bound.bits4 (fun HT_ HW_ => ?_)
            generalize wr.drew = w14 at HO_0 HK HB hx101_0 hx102_0 hHeld ⊢
            refine pu 0 18 ?_
            refine pu 1 19 ?_
            refine pu 2 20 ?_
            refine pu 3 21 ?_
            refine pu 4 22 ?_
            refine pu 5 23 ?_
            refine pu 6 24 ?_
            refine pu 7 25 ?_
            refine pu 9 27 ?_
            refine pu 10 28 ?_
            refine pu 11 29 ?_
            refine pu 12 30 ?_
            refine tk 8 26 hHeld ?_
            refine tk 13 31 hHeld ?_
            refine on 14 (fun K hK => ?_)
            refine goesW_ Tryz.func80 (by kernel_rfl) rfl #[.agg #[.slice A3_0 l3_0.length c3_0, .slice A3_1 l3_1.length c3_1], .int .i64 (rd x0_2 x9_2), .int .i64 (rd x0_2 (ji10))] (by rfl) rfl rfl rfl (by (try simp only [List.map_toArray, List.map_cons, List.map_nil]); first | done | (simp only [hji10]; rfl) | rfl | (simp only [List.length_drop, List.length_take]; rfl)) ?_
            with_reducible refine (turn_day_before.calls k2 _ _ l3_0 _ _ l3_1 (rd x0_2 x9_2) (rd x0_2 (ji10)) t103 _ ?side1 ?side2 ?side3 ?side4 A13.out).mono ?_
            (case side1 => exact Kd.C_kept_now HR3_0.out (by repeat (first | (with_reducible first | exact HK.out | apply Kept.alloc | apply Kept.drewN | apply Kept.drew) | exact HK.out)))
            (case side2 => exact HC3_0.out)
            (case side3 => exact Kd.C_kept_now HR3_1.out (by repeat (first | (with_reducible first | exact HK.out | apply Kept.alloc | apply Kept.drewN | apply Kept.drew) | exact HK.out)))
            (case side4 => exact HC3_1.out)
            rintro e w16 ⟨rfl, hb⟩
            have HS0_ := (hb.cell (World.block_lt_of_cell? _ _ (hHeld.1))).trans (hHeld.1)
            have HS1_ := (hb.cell (World.block_lt_of_cell? _ _ (hHeld.2))).trans (hHeld.2)
            refine ⟨_, rfl, ?_⟩
            replace HO_0 := rb HO_0 hb
            replace HK := Aside0.mk (Kept.below (S := (fun k_ => P0_ k_)) (by repeat (first | (with_reducible first | exact HK.out | apply Kept.alloc | apply Kept.drewN | apply Kept.drew) | exact HK.out)) hb)
            replace HB := bs HB hb
            (try clear hb)
            (try clear hb2)
            (try clear hk)
            (try clear hi)
            refine hK.out _ _ ⟨HS0_, HS1_⟩ (fun hHeld => ?_)
            clear hK K
            refine norm_ (a' := ?_) ?_ ?_
            rotate_left
            ·show Act.put _ (some 32) _ = _
             simp only [Act.put, List.setIfInBounds_toArray, List.set_cons_zero, List.set_cons_succ, i64_w, i32_w]
             rfl
            refine pu 15 33 ?_
            refine pu 16 34 ?_
            refine done_ (done_of HT_.out (by kernel_rfl)) ?_
            try go_wp2
            go_meet
            case rel => exact ⟨_, (decide (t103 < 0)), (by first | rfl | (simp; done) | (simp [*]; done)), H', ⟨by have := HK1.out; have := HK2.out; first | omega | exact Nat.le_refl _⟩, ⟨by (with_reducible repeat (first | apply Kd.R_alloc | apply Kd.R_drewN | apply Kd.R_drew)); exact HO_0.out⟩, ⟨by repeat (first | (with_reducible first | exact HK.out | apply Kept.alloc | apply Kept.drewN | apply Kept.drew) | exact HK.out)⟩, ⟨pE HB⟩⟩
           ·rw [if_neg c12] at H
            exact absurd H (by simp)
          ·rw [if_neg c11] at H
           exact absurd H (by simp)
         ·rw [if_neg c9] at H
          exact absurd H (by simp)
        ·rw [if_neg c8] at H
         exact absurd H (by simp)
       ·rw [if_neg c7] at H
        have c7b0 : decide (a1 < x9_2) = false := decide_eq_false c7
        clear c7
        (first | rw [c7b0] | (simp only [i64_w, i32_w]; rw [c7b0]) | skip)
        have H' := Aside0.mk H
        clear H
        try go_wp2
        replace HO_0 := Aside0.mk (Kd.R_drew HO_0.out)
        replace HK := Aside0.mk (Kept.drew HK.out)
        replace HB := Aside0.mk (below_drew1 HB.out)
        refine start_ (n := 17) (S := fun w' => True) (ds := []) #[false, false, false, false, false, false, false, false, false, false, false, false, false, false, false, false, false] (by kernel_rfl) rfl rfl trivial (fun hHeld => ?_); refine with_tabW slices_insertionSortCmpFunc_int_at_turn_day_before_bound.tab4 slices_insertionSortCmpFunc_int_at_turn_day_before_bound.bits4 (fun HT_ HW_ => ?_)
        generalize wr.drew = w17 at HO_0 HK HB hHeld ⊢
        refine pu 0 18 ?_
        refine pu 1 19 ?_
        refine pu 2 20 ?_
        refine pu 3 21 ?_
        refine pd 4 22 ?_
        refine pd 5 23 ?_
        refine pd 6 24 ?_
        refine pd 7 25 ?_
        refine pd 8 26 ?_
        refine pd 9 27 ?_
        refine pd 10 28 ?_
        refine pd 11 29 ?_
        refine pd 12 30 ?_
        refine pd 13 31 ?_
        refine pd 14 32 ?_
        refine pd 15 33 ?_
        refine pu 16 34 ?_
        refine done_ (done_of HT_.out (by kernel_rfl)) ?_
        try go_wp2
        go_meet
        case rel => exact ⟨_, (false), (by first | rfl | (simp; done) | (simp [*]; done)), H', ⟨by have := HK1.out; have := HK2.out; first | omega | exact Nat.le_refl _⟩, ⟨by (with_reducible repeat (first | apply Kd.R_alloc | apply Kd.R_drewN | apply Kd.R_drew)); exact HO_0.out⟩, ⟨by repeat (first | (with_reducible first | exact HK.out | apply Kept.alloc | apply Kept.drewN | apply Kept.drew) | exact HK.out)⟩, ⟨pE HB⟩⟩
      case rest =>
       clear HC6
       try clear c1
       try clear p1
       try clear q1
       try clear hx1
       try clear p2
       try clear c3
       try clear c5
       try clear c5b0
       try clear p6
       try clear c7
       try clear c7b0
       try clear c8
       try clear c8b0
       try clear c9
       try clear c9b0
       try clear p10
       try clear q10
       try clear hx10
       try clear c11
       try clear c11b0
       try clear c12
       try clear c12b0
       try clear hx101_0
       try clear hx102_0
       try clear p101
       try clear p102
       try clear p2
       try clear q101
       try clear q102
       obtain ⟨kq, x34_5, rfl, HA, HJ5, HO_0, HK, HB⟩ := hcut
       cases kq with
       | zero => exact absurd HA.out (by simp [slices_insertionSortCmpFunc_int_at_turn_day_before_bound.j2])
       | succ kj5 =>
        have H := HA.out
        clear HA
        simp only [slices_insertionSortCmpFunc_int_at_turn_day_before_bound.j2] at H
        by_cases c18 : x34_5 = true
        ·subst c18
         rw [if_pos rfl] at H
         obtain ⟨ji19, hji19⟩ : ∃ j_ : Int, (wrap64 (x9_2 - 1)) = j_ := ⟨_, rfl⟩
         replace H : (if 0 ≤ (ji19) then (if (ji19) < (x0_2.length : Int) then (if 0 ≤ x9_2 then (if x9_2 < (x0_2.length : Int) then (slices_insertionSortCmpFunc_int_at_turn_day_before_bound.l1 kj5 ((x0_2.set (x9_2 : Int).toNat (rd x0_2 (ji19))).set ((ji19) : Int).toNat (rd x0_2 x9_2)) a1 a2 x8_1 ji19 l3_0 l3_1) else (none)) else (none)) else (none)) else (none)) = some r := by first | (rw [hji19] at H; exact H) | (simp only [hji19] at H ⊢; exact H)
         have hji19w : (IntKind.i64.wrap (x9_2 - 1)) = ji19 := (i64_w _).trans hji19
         by_cases c20 : 0 ≤ (ji19)
         ·rw [if_pos c20] at H
          have c20b0 : decide (0 ≤ (ji19)) = true := decide_eq_true c20
          clear c20
          by_cases c21 : (ji19) < (x0_2.length : Int)
          ·rw [if_pos c21] at H
           have c21b0 : decide ((ji19) < (x0_2.length : Int)) = true := decide_eq_true c21
           clear c21
           by_cases c22 : 0 ≤ x9_2
           ·rw [if_pos c22] at H
            have c22b0 : decide (0 ≤ x9_2) = true := decide_eq_true c22
            clear c22
            by_cases c23 : x9_2 < (x0_2.length : Int)
            ·rw [if_pos c23] at H
             have c23b0 : decide (x9_2 < (x0_2.length : Int)) = true := decide_eq_true c23
             clear c23
             obtain ⟨y106, hy106⟩ : ∃ y_ : List Int, y_ = (x0_2.set (x9_2 : Int).toNat (rd x0_2 (ji19))) := ⟨_, rfl⟩
             replace H : (slices_insertionSortCmpFunc_int_at_turn_day_before_bound.l1 kj5 (y106.set ((ji19) : Int).toNat (rd x0_2 x9_2)) a1 a2 x8_1 ji19 l3_0 l3_1) = some r := yy hy106 H
             have Ny106 := Aside0.mk hy106
             clear hy106
             obtain ⟨y107, hy107⟩ : ∃ y_ : List Int, y_ = (y106.set ((ji19) : Int).toNat (rd x0_2 x9_2)) := ⟨_, rfl⟩
             replace H : (slices_insertionSortCmpFunc_int_at_turn_day_before_bound.l1 kj5 y107 a1 a2 x8_1 ji19 l3_0 l3_1) = some r := yy hy107 H
             have Ny107 := Aside0.mk hy107
             clear hy107
             have H' := Aside0.mk H
             clear H
             try go_wp2
             replace HO_0 := Aside0.mk (Kd.R_drew HO_0.out)
             replace HK := Aside0.mk (Kept.drew HK.out)
             replace HB := Aside0.mk (below_drew1 HB.out)
             obtain ⟨Ao27, co27, eo27⟩ := Kd.R_slice HO_0.out
             (first | subst eo27 | (injection eo27 with f1_ f2_ f3_; have f4_ := f1_.symm; have f5_ := f3_.symm; clear f1_ f2_ f3_; subst f4_; subst f5_))
             have p104 : 0 ≤ ((ji19) : Int) := dT
             have q104 : (ji19) < (x0_2.length : Int) := dT
             obtain ⟨ad104, e104, hx104_0⟩ := Kd.at_int (Kd.R_reads' HO_0.out).2.2 (ji19) p104 q104
             cases e104
             replace p104 := eq_true p104
             replace q104 := eq_true q104
             have p105 : 0 ≤ (x9_2 : Int) := dT
             have q105 : x9_2 < (x0_2.length : Int) := dT
             obtain ⟨ad105, e105, hx105_0⟩ := Kd.at_int (Kd.R_reads' HO_0.out).2.2 x9_2 p105 q105
             obtain rfl : ad104 = ad105 := (by injection e105)
             replace p105 := eq_true p105
             replace q105 := eq_true q105
             have p24 : 0 ≤ (x9_2 : Int) := dT
             have q24 : (x9_2 : Int) < ((x0_2.length : Int) : Int) := dT
             obtain ⟨go24, co24, eo24, gb24, gl24, cl24, HG24⟩ := Kd.R_form HO_0.out (by omega)
             (first | cases eo24 | (injection eo24 with ea_ en_ ec_; (first | subst ea_ | (injection ea_ with ea_; subst ea_)); subst ec_; clear en_))
             have GB24 := Aside0.mk gb24
             have GG24 := Aside0.mk HG24
             clear gb24 gl24 HG24
             have HMgo24 := Aside0.mk (show (P0_ go24 ∨ w.heap.size ≤ go24) from (HO_0.out.1 _ rfl))
             (first | simp only [add_plain] at hx104_0 | skip)
             (first | simp only [add_plain] at hx105_0 | skip)
             obtain ⟨hx24_0, hf24_0⟩ := Kd.R_celln 0 HO_0.out (x9_2 : Int) p24 q24
             replace p24 := eq_true p24
             replace q24 := eq_true q24
             have HP28 := Kd.R_putn HO_0.out (x9_2 : Int) (rd x0_2 (ji19))
             rw [← Ny106.out] at HP28
             have HQ28 := Aside0.mk HP28
             clear HP28
             have p25 : 0 ≤ ((ji19) : Int) := dT
             have q25 : ((ji19) : Int) < ((x0_2.length : Int) : Int) := dT
             obtain ⟨hx25_0, hf25_0⟩ := Kd.R_celln 0 HQ28.out ((ji19) : Int) p25 q25
             replace p25 := eq_true p25
             replace q25 := eq_true q25
             have HP29 := Kd.R_putn HQ28.out ((ji19) : Int) (rd x0_2 x9_2)
             rw [← Ny107.out] at HP29
             have HQ29 := Aside0.mk HP29
             clear HP29
             refine start_ (n := 18) (S := fun w' => w'.cell? ⟨go24, ((ji19)).toNat, none⟩ = some (.int .i64 (rd x0_2 (ji19))) ∧ w'.cell? ⟨go24, (x9_2).toNat, none⟩ = some (.int .i64 (rd x0_2 x9_2))) (ds := [15, 17]) #[false, false, false, false, false, false, false, false, false, false, false, false, false, false, false, false, false, false] (by kernel_rfl) rfl rfl ⟨hx104_0, hx105_0⟩ (fun hHeld => ?_); refine with_tabW slices_insertionSortCmpFunc_int_at_turn_day_before_bound.tab6 slices_insertionSortCmpFunc_int_at_turn_day_before_bound.bits6 (fun HT_ HW_ => ?_)
             generalize wc.drew = w26 at HO_0 HK HB GG24 HQ28 HQ29 hf24_0 hf25_0 hx104_0 hx105_0 hx24_0 hx25_0 hHeld ⊢
             refine pu 0 37 ?_
             refine pu 1 38 ?_
             refine pu 2 39 ?_
             refine pu 3 40 ?_
             refine pu 4 41 ?_
             refine pu 5 42 ?_
             refine pu 6 43 ?_
             refine pu 7 44 ?_
             refine pu 8 45 ?_
             refine pu 10 47 ?_
             refine pu 11 48 ?_
             refine pu 12 49 ?_
             refine tk 9 46 hHeld ?_
             refine tk 13 50 hHeld ?_
             refine pu 14 51 ?_
             refine last_ (i := 15) (N := none) #[true, true, true, true, true, true, true, true, true, true, true, true, true, true, true, true, false, false] rfl rfl (one_of HT_.out (by kernel_rfl)) (by decide) (fun K hK => ?_)
             refine skip_ (w1 := ?_) (by rfl) rfl ?_ ?_
             rotate_left
             ·go_simp
              rfl
             refine hK.out _ _ ?_
             clear hK K
             refine pu 16 52 ?_
             refine last_ (i := 17) (N := none) #[true, true, true, true, true, true, true, true, true, true, true, true, true, true, true, true, true, true] rfl rfl (one_of HT_.out (by kernel_rfl)) (by decide) (fun K hK => ?_)
             refine skip_ (w1 := ?_) (by rfl) rfl ?_ ?_
             rotate_left
             ·go_simp
              rfl
             refine hK.out _ _ ?_
             clear hK K
             refine done_ (done_of HT_.out (by kernel_rfl)) ?_
             try go_wp2
             go_roundg kj5
             case measure => have := HK1.out; have := HK2.out; have := HJ5.out; omega
             case rel => exact ⟨(y107), (ji19), (by first | rfl | (simp; done) | (simp only [← hji19] <;> (first | rfl | simp)) | (simp [*]; done)), H', ⟨by have := HK1.out; have := HK2.out; have := HJ5.out; omega⟩, ⟨by (with_reducible repeat (first | apply Kd.R_alloc | apply Kd.R_drewN | apply Kd.R_drew)); exact HQ29.out⟩, ⟨by repeat (first | (with_reducible first | exact HK.out | apply Kept.alloc | apply Kept.drewN | apply Kept.drew | refine Kept.setCell ?_ HMgo24.out _ | refine Kept.setCell ?_ HMgo24.out _) | exact HK.out)⟩, ⟨pE HB⟩⟩
            ·rw [if_neg c23] at H
             exact absurd H (by simp)
           ·rw [if_neg c22] at H
            exact absurd H (by simp)
          ·rw [if_neg c21] at H
           exact absurd H (by simp)
         ·rw [if_neg c20] at H
          exact absurd H (by simp)
        ·replace c18 := Bool.eq_false_iff.mpr c18
         subst c18
         rw [if_neg (show ¬ (false = true) by decide)] at H
         have H' := Aside0.mk H
         clear H
         go_wp2
         go_roundg kj5
         case measure => have := HK1.out; have := HK2.out; have := HJ5.out; omega
         case rel => exact ⟨(x0_2), (wrap64 (x8_1 + 1)), (by first | rfl | (simp; done) | (simp [*]; done)), H', ⟨by have := HK1.out; have := HK2.out; have := HJ5.out; omega⟩, ⟨by (with_reducible repeat (first | apply Kd.R_alloc | apply Kd.R_drewN | apply Kd.R_drew)); exact HO_0.out⟩, ⟨by repeat (first | (with_reducible first | exact HK.out | apply Kept.alloc | apply Kept.drewN | apply Kept.drew) | exact HK.out)⟩, ⟨pE HB⟩⟩
   ·rw [if_neg c5] at H
    have c5b0 : decide (x8_1 < a2) = false := decide_eq_false c5
    clear c5
    obtain rfl := Option.some.inj H
    go_wp2
    first | go_end0 | ((try simp only [Exit.inBlock, Exit.then]); refine bodyPost_ret (results_none rfl _ _ _) rfl ?_)
    exact ⟨eT, by (with_reducible repeat (first | apply Kd.R_alloc | apply Kd.R_drewN | apply Kd.R_drew)); exact HO_0.out, pE HB, by repeat (first | (with_reducible first | exact HK.out | apply Kept.alloc | apply Kept.drewN | apply Kept.drew) | exact HK.out)⟩
end Go.Proofs.YtlmglnobdcgbeaaGreat.P
namespace Go.Proofs.YtlmglnobdcgbeaaGreat.P
open Go.RowKit Go.Proofs.YtlmglnobdcgbeaaGreatW.PrintWords Go.Proofs.YtlmglnobdcgbeaaGreatW.PrintLast Go.Proofs.YtlmglnobdcgbeaaGreatW.PrintMore
def same (c x : S67) : Bool := decide (x.f0 = c.f0) && decide (x.f1 = c.f1)
def ear (cl : List S67) (a : Nat) : Nat := ((cl.take a).filter (same (rd_T67 cl a))).length
theorem ear_le (cl : List S67) (a : Nat) : ear cl a ≤ a := by
  unfold ear
  exact Nat.le_trans (List.length_filter_le _ _) (List.length_take_le _ _)
theorem nth_l (cl ys : List S67) (c : S67) (u v : Int) (hl : ys.length ≤ 1000) : ∀ (d i k : Nat) (m : Nat), i + d = ys.length → m ≤ i → 2 * d < k →
    turn_day_nth.l0 k m ys (ys.length : Int) i c.f0 c.f1 u v = some ((m + ((ys.drop i).filter (same c)).length : Nat) : Int)
  | 0, i, k, m, hd, hm, hk => by
    obtain ⟨k, rfl⟩ : ∃ m, k = m + 1 := ⟨k - 1, by omega⟩
    rw [turn_day_nth.l0, if_neg (by omega), List.drop_of_length_le (by omega)]; simp
  | d + 1, i, k, m, hd, hm, hk => by
    obtain ⟨k, rfl⟩ : ∃ m, k = m + 1 := ⟨k - 1, by omega⟩
    obtain ⟨k, rfl⟩ : ∃ m, k = m + 1 := ⟨k - 1, by omega⟩
    have hlt : i < ys.length := by omega
    have hj : ∀ b : Bool, turn_day_nth.j1 (k + 1) m ys (ys.length : Int) i b c.f0 c.f1 u v = some (((if b = true then m + 1 else m) + ((ys.drop (i + 1)).filter (same c)).length : Nat) : Int) := fun b => by
      rw [turn_day_nth.j1, nx i (by omega), nx m (by omega)]
      cases b
      · simp only [Bool.false_eq_true, if_false]; exact nth_l cl ys c u v hl d (i + 1) k m (by omega) (by omega) (by omega)
      · simp only [if_true]; exact nth_l cl ys c u v hl d (i + 1) k (m + 1) (by omega) (by omega) (by omega)
    rw [turn_day_nth.l0, if_pos (by omega), if_pos (by omega), if_pos (by omega), rd67_at ys i hlt, hj, hj, List.drop_eq_getElem_cons hlt, List.filter_cons]
    unfold same
    by_cases h0 : ys[i].f0 = c.f0
    · rw [if_pos h0]
      by_cases h1 : ys[i].f1 = c.f1
      · simp [h0, h1]; omega
      · simp [h0, h1]
    · rw [if_neg h0]; simp [h0]
theorem nth_eq (cl : List S67) (rk : List Int) (a : Nat) (ha : a < cl.length) (hl : cl.length ≤ 1000) (k : Nat) (hk : 2 * cl.length < k) : turn_day_nth.f k cl rk a = some (ear cl a : Int) := by
  unfold turn_day_nth.f
  rw [if_pos (by omega), if_pos (by omega), if_pos (by omega), Option.bind_some, Int.toNat_natCast]
  have := nth_l cl (cl.take a) (rd_T67 cl a) (rd_T67 cl a).f2.f0 (rd_T67 cl a).f2.f1 (by simp; omega) (cl.take a).length 0 k 0 (by omega) (by omega) (by simp; omega)
  simp only [Int.ofNat_zero, List.drop_zero, Nat.zero_add] at this
  exact this
theorem earlier_l (cl : List S67) (rk : List Int) (a : Nat) (ha : a < cl.length) (hl : cl.length ≤ 1000) : ∀ (d i k m : Nat), i + d = a → m ≤ i → 2 * d < k →
    walkmillref04_Earlier.l0 k a m i cl rk = some ((m + (((cl.take a).drop i).filter (same (rd_T67 cl a))).length : Nat) : Int)
  | 0, i, k, m, hd, hm, hk => by
    obtain ⟨k, rfl⟩ : ∃ m, k = m + 1 := ⟨k - 1, by omega⟩
    rw [walkmillref04_Earlier.l0, if_neg (by omega), List.drop_of_length_le (by simp; omega)]; simp
  | d + 1, i, k, m, hd, hm, hk => by
    obtain ⟨k, rfl⟩ : ∃ m, k = m + 1 := ⟨k - 1, by omega⟩
    obtain ⟨k, rfl⟩ : ∃ m, k = m + 1 := ⟨k - 1, by omega⟩
    have hlt : i < (cl.take a).length := by simp; omega
    have hj : ∀ b : Bool, walkmillref04_Earlier.j1 (k + 1) a m i b cl rk = some (((if b = true then m + 1 else m) + (((cl.take a).drop (i + 1)).filter (same (rd_T67 cl a))).length : Nat) : Int) := fun b => by
      rw [walkmillref04_Earlier.j1, nx i (by omega), nx m (by omega)]
      cases b
      · simp only [Bool.false_eq_true, if_false]; exact earlier_l cl rk a ha hl d (i + 1) k m (by omega) (by omega) (by omega)
      · simp only [if_true]; exact earlier_l cl rk a ha hl d (i + 1) k (m + 1) (by omega) (by omega) (by omega)
    rw [walkmillref04_Earlier.l0, if_pos (by omega), if_pos (by omega), if_pos (by omega), if_pos (by omega), if_pos (by omega), rd67_at cl i (by omega), hj, hj, List.drop_eq_getElem_cons hlt, List.filter_cons]
    have hg : (cl.take a)[i] = cl[i]'(by omega) := by simp
    rw [hg]
    have hs : same (rd_T67 cl a) (cl[i]'(by omega)) = (decide ((cl[i]'(by omega)).f0 = (rd_T67 cl a).f0) && decide ((cl[i]'(by omega)).f1 = (rd_T67 cl a).f1)) := rfl
    rw [hs]
    by_cases h0 : (cl[i]'(by omega)).f0 = (rd_T67 cl a).f0
    · rw [if_pos h0]
      by_cases h1 : (cl[i]'(by omega)).f1 = (rd_T67 cl a).f1
      · simp [h0, h1]; omega
      · simp [h0, h1]
    · rw [if_neg h0]; simp [h0]
theorem earlier_eq (cl : List S67) (rk : List Int) (a : Nat) (ha : a < cl.length) (hl : cl.length ≤ 1000) (k : Nat) (hk : 2 * cl.length < k) : walkmillref04_Earlier.f k cl rk a = some (ear cl a : Int) := by
  unfold walkmillref04_Earlier.f
  have := earlier_l cl rk a ha hl a 0 k 0 (by omega) (by omega) (by omega)
  simp only [Int.ofNat_zero, List.drop_zero, Nat.zero_add] at this
  exact this
theorem ear_lt (cl : List S67) (a b : Nat) (hab : a < b) (hb : b < cl.length) (h0 : (rd_T67 cl a).f0 = (rd_T67 cl b).f0) (h1 : (rd_T67 cl a).f1 = (rd_T67 cl b).f1) : ear cl a < ear cl b := by
  unfold ear
  have hs : same (rd_T67 cl a) = same (rd_T67 cl b) := by funext x; unfold same; rw [h0, h1]
  rw [hs]
  have hsub : (cl.take (a + 1)).Sublist (cl.take b) := by
    have : cl.take (a + 1) = (cl.take b).take (a + 1) := by rw [List.take_take, Nat.min_eq_left (by omega)]
    rw [this]; exact List.take_sublist _ _
  have hle := (hsub.filter (same (rd_T67 cl b))).length_le
  have ha : a < cl.length := by omega
  have hx : same (rd_T67 cl b) cl[a] = true := by
    have := rd67_at cl a ha
    unfold same; rw [← this, h0, h1]; simp
  rw [List.take_succ_eq_append_getElem ha, List.filter_append, List.length_append, List.filter_cons, hx] at hle
  simp at hle
  omega
def key (cl : List S67) (rk : List Int) (a : Int) : Int := (((rd_T67 cl a).f1 * 100 + ear cl a.toNat) * 10 + rd rk (rd_T67 cl a).f0) * 100 + a
theorem rank_bd {rk : List Int} (hp : rk.Perm (rng rk.length)) (h6 : rk.length ≤ 6) (x : Int) : 0 ≤ rd rk x ∧ rd rk x ≤ 5 := by
  unfold rd
  rcases Nat.lt_or_ge x.toNat rk.length with h | h
  · have hm : rk.getD x.toNat 0 ∈ rk := by rw [List.getD_eq_getElem?_getD, List.getElem?_eq_getElem h]; simp
    have := mem_rng.1 (hp.mem_iff.1 hm)
    omega
  · rw [List.getD_eq_getElem?_getD, List.getElem?_eq_none h]; simp
theorem rank_inj {rk : List Int} (hp : rk.Perm (rng rk.length)) {x y : Int} (hx : 0 ≤ x ∧ x < rk.length) (hy : 0 ≤ y ∧ y < rk.length) (h : rd rk x = rd rk y) : x = y := by
  have hn : rk.Nodup := hp.nodup_iff.2 (rng_nodup _)
  have ex : rd rk x = rk[x.toNat]'(by omega) := by have := rd_at rk x.toNat (by omega); rwa [show ((x.toNat : Nat) : Int) = x by omega] at this
  have ey : rd rk y = rk[y.toNat]'(by omega) := by have := rd_at rk y.toNat (by omega); rwa [show ((y.toNat : Nat) : Int) = y by omega] at this
  rw [ex, ey] at h
  rw [List.nodup_iff_pairwise_ne, List.pairwise_iff_getElem] at hn
  rcases Nat.lt_trichotomy x.toNat y.toNat with h1 | h1 | h1
  · exact absurd h (hn _ _ (by omega) (by omega) h1)
  · omega
  · exact absurd h.symm (hn _ _ (by omega) (by omega) h1)
theorem cl_ok {cl : List S67} {rk : List Int} (v : Valid cl rk) (a : Nat) (ha : a < cl.length) : 0 ≤ (rd_T67 cl a).f0 ∧ (rd_T67 cl a).f0 < rk.length ∧ 0 ≤ (rd_T67 cl a).f1 ∧ (rd_T67 cl a).f1 ≤ 200 ∧ 1 ≤ (rd_T67 cl a).f2.f0 ∧ (rd_T67 cl a).f2.f0 ≤ (rd_T67 cl a).f2.f1 ∧ (rd_T67 cl a).f2.f1 ≤ 600 := by
  rw [rd67_at cl a ha]; exact v.ok _ (List.getElem_mem _)
theorem key_inj (cl : List S67) (rk : List Int) (hc : cl.length ≤ 100) (a b : Int) (ha : 0 ≤ a ∧ a < cl.length) (hb : 0 ≤ b ∧ b < cl.length) (h : key cl rk a = key cl rk b) : a = b := by
  unfold key at h; omega
theorem key_cases {cl : List S67} {rk : List Int} (v : Valid cl rk) (a b : Nat) (ha : a < cl.length) (hb : b < cl.length) (hne : a ≠ b) :
    (rd_T67 cl a).f1 ≠ (rd_T67 cl b).f1 ∨ ear cl a ≠ ear cl b ∨ rd rk (rd_T67 cl a).f0 ≠ rd rk (rd_T67 cl b).f0 := by
  refine Decidable.by_contra fun h => ?_
  simp only [not_or, Decidable.not_not] at h
  obtain ⟨h1, h2, h3⟩ := h
  have oa := cl_ok v a ha
  have ob := cl_ok v b hb
  have h4 := rank_inj v.perm ⟨oa.1, oa.2.1⟩ ⟨ob.1, ob.2.1⟩ h3
  rcases Nat.lt_or_gt_of_ne hne with hlt | hgt
  · have := ear_lt cl a b hlt hb h4 h1; omega
  · have := ear_lt cl b a hgt ha h4.symm h1.symm; omega
theorem or_eq (p q r s : Int) (k : Nat) (hk : 5 < k) : cmp_Or_int.f k [p, q, r, s] = some (if p ≠ 0 then p else if q ≠ 0 then q else if r ≠ 0 then r else s) := by
  obtain ⟨k, rfl⟩ : ∃ m, k = m + 5 := ⟨k - 5, by omega⟩
  have w1 : wrap64 ((0 : Int) + 1) = 1 := by rw [w64_of (by omega) (by omega)]; rfl
  have w2 : wrap64 ((1 : Int) + 1) = 2 := by rw [w64_of (by omega) (by omega)]; rfl
  have w3 : wrap64 ((2 : Int) + 1) = 3 := by rw [w64_of (by omega) (by omega)]; rfl
  have w4 : wrap64 ((3 : Int) + 1) = 4 := by rw [w64_of (by omega) (by omega)]; rfl
  have r0 : rd [p, q, r, s] 0 = p := rfl
  have r1 : rd [p, q, r, s] 1 = q := rfl
  have r2 : rd [p, q, r, s] 2 = r := rfl
  have r3 : rd [p, q, r, s] 3 = s := rfl
  unfold cmp_Or_int.f
  simp only [cmp_Or_int.l0, w1, w2, w3, w4, r0, r1, r2, r3, List.length_cons, List.length_nil]
  by_cases hp : p = 0
  · by_cases hq : q = 0
    · by_cases hr : r = 0
      · by_cases hs : s = 0
        · simp [hp, hq, hr, hs]
        · simp [hp, hq, hr, hs]
      · simp [hp, hq, hr]
    · simp [hp, hq]
  · simp [hp]
theorem before_eq {cl : List S67} {rk : List Int} (v : Valid cl rk) (a b : Int) (ha : 0 ≤ a ∧ a < cl.length) (hb : 0 ≤ b ∧ b < cl.length) (k : Nat) (hk : 30 < k) :
    ∃ c, turn_day_before.f k cl rk a b = some c ∧ (c < 0 ↔ key cl rk a < key cl rk b) := by
  have h10 := v.c10
  have na := nth_eq cl rk a.toNat (by omega) (by omega) k (by omega)
  have nb := nth_eq cl rk b.toNat (by omega) (by omega) k (by omega)
  have oa := cl_ok v a.toNat (by omega)
  have ob := cl_ok v b.toNat (by omega)
  have ea := ear_le cl a.toNat
  have eb := ear_le cl b.toNat
  have ra := rank_bd v.perm v.r6 (rd_T67 cl a).f0
  have rb := rank_bd v.perm v.r6 (rd_T67 cl b).f0
  rw [show ((a.toNat : Nat) : Int) = a by omega] at na oa
  rw [show ((b.toNat : Nat) : Int) = b by omega] at nb ob
  unfold turn_day_before.f
  rw [if_pos ha.1, if_pos ha.2, if_pos hb.1, if_pos hb.2, na, nb]
  simp only [Option.bind_some]
  rw [if_pos oa.1, if_pos oa.2.1, if_pos ob.1, if_pos ob.2.1, or_eq _ _ _ _ k (by omega), Option.bind_some, w64_of (n := (rd_T67 cl a).f1 - (rd_T67 cl b).f1) (by omega) (by omega),
    w64_of (n := (ear cl a.toNat : Int) - ear cl b.toNat) (by omega) (by omega), w64_of (n := rd rk (rd_T67 cl a).f0 - rd rk (rd_T67 cl b).f0) (by omega) (by omega), w64_of (n := a - b) (by omega) (by omega)]
  refine ⟨_, rfl, ?_⟩
  unfold key
  generalize (rd_T67 cl a).f1 = c1 at *
  generalize (rd_T67 cl b).f1 = c2 at *
  generalize rd rk (rd_T67 cl a).f0 = r1 at *
  generalize rd rk (rd_T67 cl b).f0 = r2 at *
  generalize ear cl a.toNat = e1 at *
  generalize ear cl b.toNat = e2 at *
  clear na nb v
  split
  · omega
  split
  · omega
  split
  · omega
  · omega
theorem rBefore_eq {cl : List S67} {rk : List Int} (v : Valid cl rk) (a b : Int) (ha : 0 ≤ a ∧ a < cl.length) (hb : 0 ≤ b ∧ b < cl.length) (hne : a ≠ b) (k : Nat) (hk : 30 < k) :
    walkmillref04_Before.f k cl rk a b = some (decide (key cl rk a < key cl rk b)) := by
  have h10 := v.c10
  have na := earlier_eq cl rk a.toNat (by omega) (by omega) k (by omega)
  have nb := earlier_eq cl rk b.toNat (by omega) (by omega) k (by omega)
  have oa := cl_ok v a.toNat (by omega)
  have ob := cl_ok v b.toNat (by omega)
  have ea := ear_le cl a.toNat
  have eb := ear_le cl b.toNat
  have ra := rank_bd v.perm v.r6 (rd_T67 cl a).f0
  have rb := rank_bd v.perm v.r6 (rd_T67 cl b).f0
  have kc := key_cases v a.toNat b.toNat (by omega) (by omega) (by omega)
  rw [show ((a.toNat : Nat) : Int) = a by omega] at na oa kc
  rw [show ((b.toNat : Nat) : Int) = b by omega] at nb ob kc
  unfold walkmillref04_Before.f
  rw [if_pos ha.1, if_pos ha.2, if_pos hb.1, if_pos hb.2, na, nb]
  simp only [Option.bind_some]
  rw [if_pos oa.1, if_pos oa.2.1, if_pos ob.1, if_pos ob.2.1]
  unfold key
  generalize (rd_T67 cl a).f1 = c1 at *
  generalize (rd_T67 cl b).f1 = c2 at *
  generalize rd rk (rd_T67 cl a).f0 = r1 at *
  generalize rd rk (rd_T67 cl b).f0 = r2 at *
  generalize ear cl a.toNat = e1 at *
  generalize ear cl b.toNat = e2 at *
  clear na nb v
  split
  · split
    · congr 1; exact decide_eq_decide.2 (by omega)
    · congr 1; exact decide_eq_decide.2 (by omega)
  · congr 1; exact decide_eq_decide.2 (by omega)
def inN (n : Nat) (l : List Int) : Prop := ∀ x ∈ l, 0 ≤ x ∧ x < (n : Int)
def byKey (g : Int → Int) (l : List Int) : Prop := l.Pairwise (fun a b => g a ≤ g b)
def Less (cl : List S67) (rk : List Int) : Prop := ∀ (a b : Int), 0 ≤ a ∧ a < cl.length → 0 ≤ b ∧ b < cl.length → ∀ k, 30 < k → ∃ c, turn_day_before.f k cl rk a b = some c ∧ (c < 0 ↔ key cl rk a < key cl rk b)
theorem rd_mid (p q : List Int) (x : Int) : rd (p ++ x :: q) (p.length : Int) = x := by
  unfold rd; simp [List.getD_eq_getElem?_getD]
theorem rd_mid1 (p q : List Int) (u x : Int) : rd (p ++ u :: x :: q) ((p.length + 1 : Nat) : Int) = x := by
  have := rd_mid (p ++ [u]) q x
  simpa using this
theorem swap_mid (u v : Int) (q : List Int) : ∀ p : List Int, ((p ++ u :: v :: q).set (p.length + 1) u).set p.length v = p ++ v :: u :: q
  | [] => rfl
  | a :: p => by simp [swap_mid u v q p]
theorem ins_l1 (cl : List S67) (rk : List Int) (hb : Less cl rk) (bd : Int) (r : List Int) (v : Int) (i : Int) : ∀ (m : Nat) (s1 s2 : List Int) (k : Nat), s1.length = m → 2 * m + 40 < k → (m + s2.length + r.length : Nat) < 1000 → inN cl.length (s1 ++ v :: (s2 ++ r)) → byKey (key cl rk) (s1 ++ s2) → (∀ y ∈ s2, key cl rk v < key cl rk y) →
    ∃ (s1' s2' : List Int) (k' : Nat), slices_insertionSortCmpFunc_int_at_turn_day_before_bound.l1 k (s1 ++ v :: (s2 ++ r)) 0 bd i m cl rk = slices_insertionSortCmpFunc_int_at_turn_day_before_bound.l0 k' (s1' ++ v :: (s2' ++ r)) 0 bd (wrap64 (i + 1)) cl rk ∧ k ≤ k' + 2 * m + 2 ∧ s1' ++ s2' = s1 ++ s2 ∧ (∀ y ∈ s2', key cl rk v < key cl rk y) ∧ (∀ y ∈ s1', key cl rk y ≤ key cl rk v)
  | 0, s1, s2, k, hm, hkk, hn, hr, hs, h2 => by
    obtain ⟨k, rfl⟩ : ∃ m, k = m + 1 := ⟨k - 1, by omega⟩
    obtain ⟨k, rfl⟩ : ∃ m, k = m + 1 := ⟨k - 1, by omega⟩
    obtain rfl : s1 = [] := List.eq_nil_of_length_eq_zero hm
    exact ⟨[], s2, k, by rw [slices_insertionSortCmpFunc_int_at_turn_day_before_bound.l1, if_neg (by omega), slices_insertionSortCmpFunc_int_at_turn_day_before_bound.j2, if_neg (by simp)], by omega, rfl, h2, fun y hy => (by cases hy)⟩
  | m + 1, s1, s2, k, hm, hkk, hn, hr, hs, h2 => by
    obtain ⟨k, rfl⟩ : ∃ m, k = m + 1 := ⟨k - 1, by omega⟩
    obtain ⟨p, u, rfl⟩ : ∃ p u, s1 = p ++ [u] := by
      have hne : s1 ≠ [] := by intro e; subst e; simp at hm
      exact ⟨s1.dropLast, s1.getLast hne, (List.dropLast_concat_getLast hne).symm⟩
    have hp : p.length = m := by simpa using hm
    subst hp
    have e0 : (p ++ [u]) ++ v :: (s2 ++ r) = p ++ u :: v :: (s2 ++ r) := by simp
    have hu := hr u (by simp)
    have hv := hr v (by simp)
    have ej : wrap64 (((p.length + 1 : Nat) : Int) - 1) = (p.length : Int) := by rw [w64_of (by omega) (by omega)]; omega
    have hlen : ((p ++ u :: v :: (s2 ++ r)).length : Int) = (p.length : Int) + 2 + s2.length + r.length := by simp; omega
    obtain ⟨c, hc1, hc2⟩ := hb v u hv hu k (by omega)
    rw [e0, slices_insertionSortCmpFunc_int_at_turn_day_before_bound.l1, if_pos (by omega), if_pos (by omega), hlen, if_pos (by omega), ej, if_pos (by omega), if_pos (by omega), rd_mid1, rd_mid, hc1, Option.bind_some]
    obtain ⟨k, rfl⟩ : ∃ m, k = m + 1 := ⟨k - 1, by omega⟩
    rw [slices_insertionSortCmpFunc_int_at_turn_day_before_bound.j2]
    by_cases hc : key cl rk v < key cl rk u
    · rw [if_pos (decide_eq_true (hc2.2 hc)), ej, if_pos (by omega), hlen, if_pos (by omega), if_pos (by omega), if_pos (by omega), Int.toNat_natCast, Int.toNat_natCast, rd_mid, rd_mid1, swap_mid]
      have e1 : p ++ v :: u :: (s2 ++ r) = p ++ v :: ((u :: s2) ++ r) := by simp
      rw [e1]
      obtain ⟨s1', s2', k', q1, q2, q3, q4, q5⟩ := ins_l1 cl rk hb bd r v i p.length p (u :: s2) k rfl (by omega) (by simp; omega) (fun x hx => hr x (by simp at hx ⊢; rcases hx with h | h | h | h | h <;> simp [h])) (by simpa using hs) (fun y hy => by
        rcases List.mem_cons.1 hy with rfl | hy
        · exact hc
        · exact h2 y hy)
      exact ⟨s1', s2', k', q1, by omega, by rw [q3]; simp, q4, q5⟩
    · rw [if_neg (by simp; have := fun h => hc (hc2.1 h); omega)]
      refine ⟨p ++ [u], s2, k, by rw [e0], by omega, rfl, h2, fun y hy => ?_⟩
      rcases List.mem_append.1 hy with hy | hy
      · have : byKey (key cl rk) (p ++ [u]) := List.Pairwise.sublist (List.sublist_append_left _ _) hs
        have := (List.pairwise_append.1 this).2.2 y hy u (by simp)
        omega
      · obtain rfl := List.mem_singleton.1 hy; omega
theorem ins_l0 (cl : List S67) (rk : List Int) (hb : Less cl rk) : ∀ (d : Nat) (s r : List Int) (k : Nat), r.length = d → 50 * d + 50 < k → s.length + d ≤ 15 → inN cl.length (s ++ r) → byKey (key cl rk) s →
    ∃ ys, slices_insertionSortCmpFunc_int_at_turn_day_before_bound.l0 k (s ++ r) 0 ((s.length + d : Nat) : Int) s.length cl rk = some ys ∧ ys.Perm (s ++ r) ∧ byKey (key cl rk) ys
  | 0, s, r, k, hd, hkk, hn, hr, hs => by
    obtain ⟨k, rfl⟩ : ∃ m, k = m + 1 := ⟨k - 1, by omega⟩
    obtain rfl : r = [] := List.eq_nil_of_length_eq_zero hd
    exact ⟨s ++ [], by rw [slices_insertionSortCmpFunc_int_at_turn_day_before_bound.l0, if_neg (by omega)], List.Perm.refl _, by simpa using hs⟩
  | d + 1, s, r, k, hd, hkk, hn, hr, hs => by
    obtain ⟨k, rfl⟩ : ∃ m, k = m + 1 := ⟨k - 1, by omega⟩
    obtain ⟨v, r, rfl⟩ : ∃ v r', r = v :: r' := by cases r with | nil => cases hd | cons v r => exact ⟨v, r, rfl⟩
    have hrl : r.length = d := by simpa using hd
    rw [slices_insertionSortCmpFunc_int_at_turn_day_before_bound.l0, if_pos (by omega)]
    obtain ⟨s1, s2, k', q1, q2, q3, q4, q5⟩ := ins_l1 cl rk hb ((s.length + (d + 1) : Nat) : Int) r v s.length s.length s [] k rfl (by omega) (by simp; omega) (by simpa using hr) (by simpa using hs) (fun y hy => (by cases hy))
    rw [List.nil_append] at q1
    rw [q1, nx s.length (by omega)]
    rw [List.append_nil] at q3
    have hl : (s1 ++ v :: s2).length = s.length + 1 := by rw [← q3]; simp; omega
    have hp1 : (s1 ++ v :: s2 ++ r).Perm (s ++ v :: r) := by
      rw [← q3, List.append_assoc, List.append_assoc]
      refine List.Perm.append_left s1 ?_
      rw [List.cons_append]
      exact List.perm_middle.symm
    have hs' : byKey (key cl rk) (s1 ++ v :: s2) := by
      rw [← q3] at hs
      obtain ⟨a1, a2, a3⟩ := List.pairwise_append.1 hs
      refine List.pairwise_append.2 ⟨a1, List.pairwise_cons.2 ⟨fun y hy => Int.le_of_lt (q4 y hy), a2⟩, fun x hx y hy => ?_⟩
      rcases List.mem_cons.1 hy with rfl | hy
      · exact q5 x hx
      · exact a3 x hx y hy
    obtain ⟨ys, y1, y2, y3⟩ := ins_l0 cl rk hb d (s1 ++ v :: s2) r k' hrl (by have := congrArg List.length q3; simp at this; omega) (by omega) (fun x hx => hr x (hp1.mem_iff.1 hx)) hs'
    refine ⟨ys, ?_, y2.trans hp1, y3⟩
    rw [hl] at y1
    rw [show s1 ++ v :: (s2 ++ r) = s1 ++ v :: s2 ++ r by simp, show s.length + (d + 1) = s.length + 1 + d by omega]
    exact y1
end Go.Proofs.YtlmglnobdcgbeaaGreat.P
namespace Go.Proofs.YtlmglnobdcgbeaaGreat.P
open Go.RowKit Go.Proofs.YtlmglnobdcgbeaaGreatW.PrintWords Go.Proofs.YtlmglnobdcgbeaaGreatW.PrintLast Go.Proofs.YtlmglnobdcgbeaaGreatW.PrintMore
attribute [local go_sem] max2_int min2_int max_two min_two max_three min_three max_four min_four
def turn_open.j0 : Nat → Int → Bool → List (S67) → List Int → Option ((List (S67)) × List Int × Int)
 | 0, _, _, _, _ => none
 | k + 1, x8, x24, x102000, x102001 => if x24 = true then (some (x102000, x102001, 3)) else (some (x102000, x102001, x8))
def turn_open.f (k : Nat) (l0_0 : List (S67)) (l0_1 : List Int) (a1 : Int) (a2 : Int) : Option ((List (S67)) × List Int × Int) := (turn_Check.f k l0_0 l0_1).bind fun t103 => (if t103 = 0 then ((turn_within.f 1 5 (([a1] : List Int))).bind fun t107 => (if t107 = true then ((turn_within.f 0 500 (([a2] : List Int))).bind fun t111 => (turn_open.j0 k t103 (!t111) l0_0 l0_1)) else (turn_open.j0 k t103 true l0_0 l0_1))) else (turn_open.j0 k t103 false l0_0 l0_1))
theorem turn_open.mono_l : ∀ k, (∀ y0 y1 y2 y3, LeO (turn_open.j0 k y0 y1 y2 y3) (turn_open.j0 (k + 1) y0 y1 y2 y3))
 | 0 => fun _ _ _ _ r h => by simp [turn_open.j0] at h
 | k + 1 => by
  have ih0 := turn_open.mono_l k
  ·intro y0 y1 y2 y3
   unfold turn_open.j0
   repeat' first
   | (with_reducible exact ih0 _ _ _ _)
   | (with_reducible exact turn_Check.mono _ _ _)
   | (with_reducible exact LeO.refl _)
   | (with_reducible exact LeO.none _)
   | (with_reducible refine LeO.ite ?_ ?_)
   | (with_reducible refine LeO.bind ?_ (fun _ => ?_))
   | exact ih0 _ _ _ _
   | exact turn_Check.mono _ _ _
   | exact LeO.none _
   | refine LeO.ite ?_ ?_
   | refine LeO.bind ?_ (fun _ => ?_)
theorem turn_open.mono : ∀ a0 a1 a2 a3 k, LeO (turn_open.f k a0 a1 a2 a3) (turn_open.f (k + 1) a0 a1 a2 a3) := by
 intro a0 a1 a2 a3 k
 have ih0 := turn_open.mono_l k
 unfold turn_open.f
 repeat' first
   | (with_reducible exact ih0 _ _ _ _)
   | (with_reducible exact turn_Check.mono _ _ _)
   | (with_reducible exact LeO.refl _)
   | (with_reducible exact LeO.none _)
   | (with_reducible refine LeO.ite ?_ ?_)
   | (with_reducible refine LeO.bind ?_ (fun _ => ?_))
   | exact ih0 _ _ _ _
   | exact turn_Check.mono _ _ _
   | exact LeO.none _
   | refine LeO.ite ?_ ?_
   | refine LeO.bind ?_ (fun _ => ?_)
set_option maxHeartbeats 8000000 in
set_option maxRecDepth 100000 in
theorem turn_open.calls (k : Nat) (P0_0_ : Nat → Prop) (A0_0 : Option Addr) (c0_0 : Nat) (l0_0 : List (S67)) (P0_1_ : Nat → Prop) (A0_1 : Option Addr) (c0_1 : Nat) (l0_1 : List Int) (a1 : Int) (a2 : Int) (r1 : List (S67)) (r2 : List Int) (r3 : Int) (w : World) (hs0_0 : Kd.V k67 67 w w.heap.size (fun k_ => P0_0_ k_) (.slice A0_0 l0_0.length c0_0) l0_0) (hs0_1 : Kd.V (Kd.int .i64) 3 w w.heap.size (fun k_ => P0_1_ k_) (.slice A0_1 l0_1.length c0_1) l0_1) (h : turn_open.f k l0_0 l0_1 a1 a2 = some (r1, r2, r3)) :
  Calls Tryz.prog 62 #[.agg #[.slice A0_0 l0_0.length c0_0, .slice A0_1 l0_1.length c0_1], .int .i64 a1, .int .i64 a2] w fun e w' => ∃ v0_ v1_ : Value, e = .returned (.tuple #[.agg #[v0_, v1_], .int .i64 r3]) ∧ Kd.V k67 67 w' w.heap.size (fun k_ => ((P0_0_ k_ ∨ P0_1_ k_) ∨ w.heap.size ≤ k_)) v0_ r1 ∧ Kd.V (Kd.int .i64) 3 w' w.heap.size (fun k_ => ((P0_0_ k_ ∨ P0_1_ k_) ∨ w.heap.size ≤ k_)) v1_ r2 ∧ Below w.heap.size w w' := by
 have hu25 := Tryz.underlying25
 have hu99 := Tryz.underlying99
 have HO0_0 := Aside0.mk (show Kd.V k67 67 w w.heap.size (fun k_ => ((P0_0_ k_ ∨ P0_1_ k_) ∨ w.heap.size ≤ k_)) (.slice A0_0 l0_0.length c0_0) l0_0 from Kd.V_mono hs0_0 (fun k_ hk => .inl (.inl hk)))
 have HO0_1 := Aside0.mk (show Kd.V (Kd.int .i64) 3 w w.heap.size (fun k_ => ((P0_0_ k_ ∨ P0_1_ k_) ∨ w.heap.size ≤ k_)) (.slice A0_1 l0_1.length c0_1) l0_1 from Kd.V_mono hs0_1 (fun k_ hk => .inl (.inr hk)))
 have HB := Aside0.mk (Below.refl w.heap.size w)
 have H : ((turn_Check.f k l0_0 l0_1).bind fun t103 => (if t103 = 0 then ((turn_within.f 1 5 (([a1] : List Int))).bind fun t107 => (if t107 = true then ((turn_within.f 0 500 (([a2] : List Int))).bind fun t111 => (turn_open.j0 k t103 (!t111) l0_0 l0_1)) else (turn_open.j0 k t103 true l0_0 l0_1))) else (turn_open.j0 k t103 false l0_0 l0_1))) = some (r1, r2, r3) := h
 clear h
 obtain ⟨t103, A4, H⟩ := bi H
 have HC5 := Aside0.mk H
 clear H
 go_enter Tryz.func62, Tryz.ntmps62
 go_upto_region 2 with (first | ((with_reducible refine gate_dst (N := 3) rfl ?_); (try (refine gate_guard (by rfl) ?_; dsimp only)); refine bx 3 #[.slice A0_0 l0_0.length c0_0, .slice A0_1 l0_1.length c0_1] 25 ?_; intro gb101 hg w6 hbox hb; replace HO0_0 := ve HO0_0 hg hb; replace HO0_1 := ve HO0_1 hg hb; have BK101 := hbox; have GW101 := gs HB hg; have GE101 := gs HB hg; replace HB := bs HB hb; clear hb hbox hg) | ((with_reducible refine gate_dst (N := 6) rfl ?_); (try (refine gate_guard (by rfl) ?_; dsimp only)); refine bx 6 #[.slice none 0 0, .slice none 0 0] 99 ?_; intro gb102 hg w7 hbox hb; replace HO0_0 := ve HO0_0 hg hb; replace HO0_1 := ve HO0_1 hg hb; have BK102 := hbox; have GW102 := gs HB hg; have GE102 := gs HB hg; replace HB := bs HB hb; have NB101_102 := nl BK101 hg; have NB102_101 := nr BK101 hg; replace BK101 := bb BK101 hb; clear hb hbox hg; have hnb8 := NB101_102.out; have hnc8 := NB102_101.out; obtain ⟨hcz9_0, hcz9_1, hfz9_0, hfz9_1⟩ := cf2 BK101) | ((with_reducible refine gc 19 rfl ?_); refine gL 10 Tryz.func19 #[.agg #[.slice A0_0 l0_0.length c0_0, .slice A0_1 l0_1.length c0_1]] ?_; (with_reducible refine (turn_Check.calls k _ _ l0_0 _ _ l0_1 t103 _ ?side1 ?side2 ?side3 ?side4 A4.out).mono ?_); (case side1 => exact pC (Kd.V_reads' HO0_0.out).2.2); (case side2 => exact (Kd.V_reads' HO0_0.out).2.1); (case side3 => exact pC (Kd.V_reads' HO0_1.out).2.2); (case side4 => exact (Kd.V_reads' HO0_1.out).2.1); rintro e w10 ⟨rfl, hb⟩; refine ⟨_, rfl, ?_⟩; replace HO0_0 := vb HO0_0 hb; replace HO0_1 := vb HO0_1 hb; replace BK101 := bb BK101 hb; replace BK102 := bb BK102 hb; replace HB := bs HB hb; clear hb))
 (try simp only [Act.put, List.setIfInBounds_toArray, List.set_cons_zero, List.set_cons_succ])
 go_cut [24] (fun v24 wc => ∃ (kq : Nat) (x24_4 : Bool), v24 = .bool x24_4 ∧ Aside0 (turn_open.j0 kq t103 x24_4 l0_0 l0_1 = some (r1, r2, r3)) ∧ Aside0 (kq ≤ k) ∧ Aside0 (Kd.V k67 67 wc w.heap.size (fun k_ => ((P0_0_ k_ ∨ P0_1_ k_) ∨ w.heap.size ≤ k_) ∧ k_ ≠ gb101 ∧ k_ ≠ gb102) (.slice A0_0 l0_0.length c0_0) l0_0) ∧ Aside0 (Kd.V (Kd.int .i64) 3 wc w.heap.size (fun k_ => ((P0_0_ k_ ∨ P0_1_ k_) ∨ w.heap.size ≤ k_) ∧ k_ ≠ gb101 ∧ k_ ≠ gb102) (.slice A0_1 l0_1.length c0_1) l0_1) ∧ Aside0 (wc.heap[gb101]? = some (.cells #[(.slice A0_0 l0_0.length c0_0), (.slice A0_1 l0_1.length c0_1)] 25 (0, 0))) ∧ Aside0 (wc.heap[gb102]? = some (.cells #[(.slice none 0 0), (.slice none 0 0)] 99 (0, 0))) ∧ Aside0 (Below w.heap.size w wc))
 case first =>
  have H := HC5.out
  clear HC5
  by_cases c11 : t103 = 0
  ·rw [if_pos c11] at H
   have c11b0 : (t103 == 0) = true := beq_iff_eq.mpr c11
   have c11b1 : (t103 != 0) = false := bne_eq_false_iff_eq.mpr c11
   clear c11
   (first | rw [c11b0] | (simp only [i64_w, i32_w]; rw [c11b0]) | skip)
   obtain ⟨y104, hy104⟩ : ∃ y_ : List Int, y_ = (([a1] : List Int)) := ⟨_, rfl⟩
   replace H : Option.bind (turn_within.f 1 5 y104) _ = some (r1, r2, r3) := yy hy104 H
   have Ny104 := Aside0.mk hy104
   clear hy104
   obtain ⟨t107, A12, H⟩ := bi H
   by_cases c13 : t107 = true
   ·subst c13
    rw [if_pos rfl] at H
    obtain ⟨y108, hy108⟩ : ∃ y_ : List Int, y_ = (([a2] : List Int)) := ⟨_, rfl⟩
    replace H : Option.bind (turn_within.f 0 500 y108) _ = some (r1, r2, r3) := yy hy108 H
    have Ny108 := Aside0.mk hy108
    clear hy108
    obtain ⟨t111, A14, H⟩ := bi H
    have H' := Aside0.mk H
    clear H
    go_wp2_with (first | ((with_reducible refine gate_dst (N := 15) rfl ?_); (try (refine gate_guard (by rfl) ?_; dsimp only)); refine Kd.R_lit (Kd.int .i64) _ 3 ?hg (N := 15) ?hd (xs := ([a1] : List Int)) (inner := [.int .i64 a1]) (ok := fun _ => True) (okp := fun _ => True) ?hr ?hp (fun _ hk => hk) trivial (Below.refl _ _) (Nat.le_refl _) (by simp) ?_; (case hd => rfl); (case hg => rfl); (case hr => first | (go_simp; done) | (go_simp; rfl)); (case hp => exact (Reps.one (show Kd.M (Kd.int .i64) _ _ _ a1 [.int .i64 a1] from rfl) (Reps.none _ _))); intro v105 w15 ho16 hb hg_ hnew_; clear hg_ hnew_; (first | rw [← Ny104.out] at ho16 | (simp only [Int.reduceToNat] at ho16; rw [← Ny104.out] at ho16)); replace HO0_0 := Aside0.mk (Kd.V_elder' (pV HO0_0.out) (Kd.R_base ho16) hb); replace HO0_1 := Aside0.mk (Kd.V_elder' (pV HO0_1.out) (Kd.R_base ho16) hb); have HO106 := Aside0.mk (Kd.R_lower (Kd.R_newM (M := fun k_ => (w.heap.size ≤ k_)) ho16 (below_size (pE HB)) (fun k_ h_ => h_)) (below_size (pE HB))); replace BK101 := bb BK101 hb; replace BK102 := bb BK102 hb; replace HB := bs HB hb; clear hb ho16; obtain ⟨Ao17, co17, eo17⟩ := Kd.R_slice HO106.out; subst eo17) | (go_at_call 59; (with_reducible refine (turn_within.calls 1 5 _ _ y104 true _ ?side1 ?side2 A12.out).mono ?_); (case side1 => exact pC (Kd.R_reads' HO106.out).2.2); (case side2 => exact (Kd.R_reads' HO106.out).2.1); rintro e w18 ⟨rfl, hb⟩; replace HO0_0 := vb HO0_0 hb; replace HO0_1 := vb HO0_1 hb; replace HO106 := rb HO106 hb; replace BK101 := bb BK101 hb; replace BK102 := bb BK102 hb; replace HB := bs HB hb; (try clear hb); (try clear hb2); (try clear hk); (try clear hi)) | ((with_reducible refine gate_dst (N := 20) rfl ?_); (try (refine gate_guard (by rfl) ?_; dsimp only)); refine Kd.R_lit (Kd.int .i64) _ 3 ?hg (N := 20) ?hd (xs := ([a2] : List Int)) (inner := [.int .i64 a2]) (ok := fun _ => True) (okp := fun _ => True) ?hr ?hp (fun _ hk => hk) trivial (Below.refl _ _) (Nat.le_refl _) (by simp) ?_; (case hd => rfl); (case hg => rfl); (case hr => first | (go_simp; done) | (go_simp; rfl)); (case hp => exact (Reps.one (show Kd.M (Kd.int .i64) _ _ _ a2 [.int .i64 a2] from rfl) (Reps.none _ _))); intro v109 w19 ho20 hb hg_ hnew_; clear hg_ hnew_; (first | rw [← Ny108.out] at ho20 | (simp only [Int.reduceToNat] at ho20; rw [← Ny108.out] at ho20)); replace HO0_0 := Aside0.mk (Kd.V_elder' (pV HO0_0.out) (Kd.R_base ho20) hb); replace HO0_1 := Aside0.mk (Kd.V_elder' (pV HO0_1.out) (Kd.R_base ho20) hb); have HO110 := Aside0.mk (Kd.R_lower (Kd.R_new' (Kd.R_newM (M := fun k_ => (w.heap.size ≤ k_)) ho20 (below_size (pE HB)) (fun k_ h_ => h_)) (Kd.R_lt (pR HO106.out))) (below_size (pE HB))); replace HO106 := re HO106 ho20 hb; replace BK101 := bb BK101 hb; replace BK102 := bb BK102 hb; replace HB := bs HB hb; clear hb ho20; obtain ⟨Ao21, co21, eo21⟩ := Kd.R_slice HO110.out; subst eo21) | (go_at_call 59; (with_reducible refine (turn_within.calls 0 500 _ _ y108 t111 _ ?side1 ?side2 A14.out).mono ?_); (case side1 => exact pC (Kd.R_reads' HO110.out).2.2); (case side2 => exact (Kd.R_reads' HO110.out).2.1); rintro e w22 ⟨rfl, hb⟩; replace HO0_0 := vb HO0_0 hb; replace HO0_1 := vb HO0_1 hb; replace HO106 := rb HO106 hb; replace HO110 := rb HO110 hb; replace BK101 := bb BK101 hb; replace BK102 := bb BK102 hb; replace HB := bs HB hb; (try clear hb); (try clear hb2); (try clear hk); (try clear hi)))
    go_meet
    case rel => exact ⟨_, (!t111), (by first | rfl | (simp; done) | (simp [*]; done)), H', ⟨by first | omega | exact Nat.le_refl _⟩, ⟨by (with_reducible repeat (first | apply Kd.V_alloc | apply Kd.V_drewN | apply Kd.V_drew)); exact Kd.V_mono HO0_0.out (fun _ hk => ⟨hk.1.1.1.1, ⟨hk.1.1.1.2, hk.1.1.2⟩⟩)⟩, ⟨by (with_reducible repeat (first | apply Kd.V_alloc | apply Kd.V_drewN | apply Kd.V_drew)); exact Kd.V_mono HO0_1.out (fun _ hk => ⟨hk.1.1.1.1, ⟨hk.1.1.1.2, hk.1.1.2⟩⟩)⟩, ⟨by (with_reducible repeat (first | refine blk_drewN ?_ _ | refine blk_drew ?_ | refine blk_alloc ?_ _)); exact BK101.out⟩, ⟨by (with_reducible repeat (first | refine blk_drewN ?_ _ | refine blk_drew ?_ | refine blk_alloc ?_ _)); exact BK102.out⟩, ⟨pE HB⟩⟩
   ·replace c13 := Bool.eq_false_iff.mpr c13
    subst c13
    rw [if_neg (show ¬ (false = true) by decide)] at H
    have H' := Aside0.mk H
    clear H
    go_wp2_with (first | ((with_reducible refine gate_dst (N := 15) rfl ?_); (try (refine gate_guard (by rfl) ?_; dsimp only)); refine Kd.R_lit (Kd.int .i64) _ 3 ?hg (N := 15) ?hd (xs := ([a1] : List Int)) (inner := [.int .i64 a1]) (ok := fun _ => True) (okp := fun _ => True) ?hr ?hp (fun _ hk => hk) trivial (Below.refl _ _) (Nat.le_refl _) (by simp) ?_; (case hd => rfl); (case hg => rfl); (case hr => first | (go_simp; done) | (go_simp; rfl)); (case hp => exact (Reps.one (show Kd.M (Kd.int .i64) _ _ _ a1 [.int .i64 a1] from rfl) (Reps.none _ _))); intro v105 w23 ho24 hb hg_ hnew_; clear hg_ hnew_; (first | rw [← Ny104.out] at ho24 | (simp only [Int.reduceToNat] at ho24; rw [← Ny104.out] at ho24)); replace HO0_0 := Aside0.mk (Kd.V_elder' (pV HO0_0.out) (Kd.R_base ho24) hb); replace HO0_1 := Aside0.mk (Kd.V_elder' (pV HO0_1.out) (Kd.R_base ho24) hb); have HO106 := Aside0.mk (Kd.R_lower (Kd.R_newM (M := fun k_ => (w.heap.size ≤ k_)) ho24 (below_size (pE HB)) (fun k_ h_ => h_)) (below_size (pE HB))); replace BK101 := bb BK101 hb; replace BK102 := bb BK102 hb; replace HB := bs HB hb; clear hb ho24; obtain ⟨Ao25, co25, eo25⟩ := Kd.R_slice HO106.out; subst eo25) | (go_at_call 59; (with_reducible refine (turn_within.calls 1 5 _ _ y104 false _ ?side1 ?side2 A12.out).mono ?_); (case side1 => exact pC (Kd.R_reads' HO106.out).2.2); (case side2 => exact (Kd.R_reads' HO106.out).2.1); rintro e w26 ⟨rfl, hb⟩; replace HO0_0 := vb HO0_0 hb; replace HO0_1 := vb HO0_1 hb; replace HO106 := rb HO106 hb; replace BK101 := bb BK101 hb; replace BK102 := bb BK102 hb; replace HB := bs HB hb; (try clear hb); (try clear hb2); (try clear hk); (try clear hi)))
    go_meet
    case rel => exact ⟨_, (true), (by first | rfl | (simp; done) | (simp [*]; done)), H', ⟨by first | omega | exact Nat.le_refl _⟩, ⟨by (with_reducible repeat (first | apply Kd.V_alloc | apply Kd.V_drewN | apply Kd.V_drew)); exact Kd.V_mono HO0_0.out (fun _ hk => ⟨hk.1.1.1, ⟨hk.1.1.2, hk.1.2⟩⟩)⟩, ⟨by (with_reducible repeat (first | apply Kd.V_alloc | apply Kd.V_drewN | apply Kd.V_drew)); exact Kd.V_mono HO0_1.out (fun _ hk => ⟨hk.1.1.1, ⟨hk.1.1.2, hk.1.2⟩⟩)⟩, ⟨by (with_reducible repeat (first | refine blk_drewN ?_ _ | refine blk_drew ?_ | refine blk_alloc ?_ _)); exact BK101.out⟩, ⟨by (with_reducible repeat (first | refine blk_drewN ?_ _ | refine blk_drew ?_ | refine blk_alloc ?_ _)); exact BK102.out⟩, ⟨pE HB⟩⟩
  ·rw [if_neg c11] at H
   have c11b0 : (t103 == 0) = false := beq_eq_false_iff_ne.mpr c11
   have c11b1 : (t103 != 0) = true := bne_iff_ne.mpr c11
   (first | rw [c11b0] | (simp only [i64_w, i32_w]; rw [c11b0]) | skip)
   have H' := Aside0.mk H
   clear H
   go_wp2
   go_meet
   case rel => exact ⟨_, (false), (by first | rfl | (simp; done) | (simp [*]; done)), H', ⟨by first | omega | exact Nat.le_refl _⟩, ⟨by (with_reducible repeat (first | apply Kd.V_alloc | apply Kd.V_drewN | apply Kd.V_drew)); exact Kd.V_mono HO0_0.out (fun _ hk => ⟨hk.1.1, ⟨hk.1.2, hk.2⟩⟩)⟩, ⟨by (with_reducible repeat (first | apply Kd.V_alloc | apply Kd.V_drewN | apply Kd.V_drew)); exact Kd.V_mono HO0_1.out (fun _ hk => ⟨hk.1.1, ⟨hk.1.2, hk.2⟩⟩)⟩, ⟨by (with_reducible repeat (first | refine blk_drewN ?_ _ | refine blk_drew ?_ | refine blk_alloc ?_ _)); exact BK101.out⟩, ⟨by (with_reducible repeat (first | refine blk_drewN ?_ _ | refine blk_drew ?_ | refine blk_alloc ?_ _)); exact BK102.out⟩, ⟨pE HB⟩⟩
 case rest =>
  clear HC5
  try clear c1
  try clear p2
  try clear c6
  try clear c8
  try clear c11
  try clear c11b0
  try clear c11b1
  try clear c13
  try clear c19
  try clear hcz9_0
  try clear hcz9_1
  try clear hfz9_0
  try clear hfz9_1
  obtain ⟨kq, x24_4, rfl, HA, HJ4, HO_102000, HO_102001, BK101, BK102, HB⟩ := hcut
  cases kq with
  | zero => exact absurd HA.out (by simp [turn_open.j0])
  | succ kj4 =>
   have H := HA.out
   clear HA
   simp only [turn_open.j0] at H
   by_cases c27 : x24_4 = true
   ·subst c27
    rw [if_pos rfl] at H
    simp only [Option.some.injEq, Prod.mk.injEq] at H
    obtain ⟨rfl, rfl, rfl⟩ := H
    have hnb28 := NB101_102.out
    have hnc28 := NB102_101.out
    obtain ⟨_, _, _, _⟩ := cf2 BK101
    obtain ⟨_, _, _, _⟩ := cf2 BK102
    go_wp2
    refine bodyPost_ret (results_ct rfl _ _ gb102 99 #[.slice A0_0 l0_0.length c0_0, .slice A0_1 l0_1.length c0_1] (0, 0) _ rfl (by refine pB ?_; refine blk_put (cs := #[.slice A0_0 l0_0.length c0_0, .slice none 0 0]) ?_ 1 _ rfl; refine pB ?_; refine blk_put (cs := #[.slice none 0 0, .slice none 0 0]) ?_ 0 _ rfl; (with_reducible repeat (first | refine blk_drewN ?_ _ | refine blk_drew ?_ | refine blk_alloc ?_ _)); exact BK102.out) Tryz.underlying99 rfl (by kernel_rfl)) rfl ?_
    exact ⟨_, _, eT, by (with_reducible repeat (first | apply Kd.V_alloc | apply Kd.V_drewN | apply Kd.V_drew)); exact Kd.V_mono (Kd.V_far (p := ⟨gb102, 1, none⟩) (Kd.V_far (p := ⟨gb102, 0, none⟩) (Kd.V_mono HO_102000.out (fun k_ hk => (⟨hk, hk.2.2⟩ : _ ∧ k_ ≠ gb102))) (fun _ hk => hk.2) (.slice A0_0 l0_0.length c0_0)) (fun _ hk => hk.2) (.slice A0_1 l0_1.length c0_1)) (fun _ hk => hk.1.1), by (with_reducible repeat (first | apply Kd.V_alloc | apply Kd.V_drewN | apply Kd.V_drew)); exact Kd.V_mono (Kd.V_far (p := ⟨gb102, 1, none⟩) (Kd.V_far (p := ⟨gb102, 0, none⟩) (Kd.V_mono HO_102001.out (fun k_ hk => (⟨hk, hk.2.2⟩ : _ ∧ k_ ≠ gb102))) (fun _ hk => hk.2) (.slice A0_0 l0_0.length c0_0)) (fun _ hk => hk.2) (.slice A0_1 l0_1.length c0_1)) (fun _ hk => hk.1.1), pE HB⟩
   ·replace c27 := Bool.eq_false_iff.mpr c27
    subst c27
    rw [if_neg (show ¬ (false = true) by decide)] at H
    simp only [Option.some.injEq, Prod.mk.injEq] at H
    obtain ⟨rfl, rfl, rfl⟩ := H
    have hnb31 := NB101_102.out
    have hnc31 := NB102_101.out
    obtain ⟨_, _, _, _⟩ := cf2 BK101
    obtain ⟨_, _, _, _⟩ := cf2 BK102
    go_wp2
    refine bodyPost_ret (results_ct rfl _ _ gb102 99 #[.slice A0_0 l0_0.length c0_0, .slice A0_1 l0_1.length c0_1] (0, 0) _ rfl (by refine pB ?_; refine blk_put (cs := #[.slice A0_0 l0_0.length c0_0, .slice none 0 0]) ?_ 1 _ rfl; refine pB ?_; refine blk_put (cs := #[.slice none 0 0, .slice none 0 0]) ?_ 0 _ rfl; (with_reducible repeat (first | refine blk_drewN ?_ _ | refine blk_drew ?_ | refine blk_alloc ?_ _)); exact BK102.out) Tryz.underlying99 rfl (by kernel_rfl)) rfl ?_
    exact ⟨_, _, eT, by (with_reducible repeat (first | apply Kd.V_alloc | apply Kd.V_drewN | apply Kd.V_drew)); exact Kd.V_mono (Kd.V_far (p := ⟨gb102, 1, none⟩) (Kd.V_far (p := ⟨gb102, 0, none⟩) (Kd.V_mono HO_102000.out (fun k_ hk => (⟨hk, hk.2.2⟩ : _ ∧ k_ ≠ gb102))) (fun _ hk => hk.2) (.slice A0_0 l0_0.length c0_0)) (fun _ hk => hk.2) (.slice A0_1 l0_1.length c0_1)) (fun _ hk => hk.1.1), by (with_reducible repeat (first | apply Kd.V_alloc | apply Kd.V_drewN | apply Kd.V_drew)); exact Kd.V_mono (Kd.V_far (p := ⟨gb102, 1, none⟩) (Kd.V_far (p := ⟨gb102, 0, none⟩) (Kd.V_mono HO_102001.out (fun k_ hk => (⟨hk, hk.2.2⟩ : _ ∧ k_ ≠ gb102))) (fun _ hk => hk.2) (.slice A0_0 l0_0.length c0_0)) (fun _ hk => hk.2) (.slice A0_1 l0_1.length c0_1)) (fun _ hk => hk.1.1), pE HB⟩
def slices_pdqsortCmpFunc_int_at_turn_day_before_bound.l0 : Nat → List Int → Int → Int → Int → Bool → List (S67) → List Int → Option (List Int)
 | 0, _, _, _, _, _, _, _ => none
 | k + 1, x0, x1, x2, x3, x10, x75000, x75001 => if (wrap64 (x2 - x1)) ≤ 12 then ((slices_insertionSortCmpFunc_int_at_turn_day_before_bound.f k x0 x1 x2 x75000 x75001).bind fun t101 => (some t101)) else (if x3 = 0 then (none) else (if x10 = true then (none) else (none)))
def slices_pdqsortCmpFunc_int_at_turn_day_before_bound.f (k : Nat) (l0 : List Int) (a1 : Int) (a2 : Int) (a3 : Int) (l4_0 : List (S67)) (l4_1 : List Int) : Option (List Int) := slices_pdqsortCmpFunc_int_at_turn_day_before_bound.l0 k l0 a1 a2 a3 true l4_0 l4_1
theorem slices_pdqsortCmpFunc_int_at_turn_day_before_bound.mono_l : ∀ k, (∀ y0 y1 y2 y3 y4 y5 y6, LeO (slices_pdqsortCmpFunc_int_at_turn_day_before_bound.l0 k y0 y1 y2 y3 y4 y5 y6) (slices_pdqsortCmpFunc_int_at_turn_day_before_bound.l0 (k + 1) y0 y1 y2 y3 y4 y5 y6))
 | 0 => fun _ _ _ _ _ _ _ r h => by simp [slices_pdqsortCmpFunc_int_at_turn_day_before_bound.l0] at h
 | k + 1 => by
  have ih0 := slices_pdqsortCmpFunc_int_at_turn_day_before_bound.mono_l k
  ·intro y0 y1 y2 y3 y4 y5 y6
   unfold slices_pdqsortCmpFunc_int_at_turn_day_before_bound.l0
   repeat' first
   | (with_reducible exact ih0 _ _ _ _ _ _ _)
   | (with_reducible exact slices_insertionSortCmpFunc_int_at_turn_day_before_bound.mono _ _ _ _ _ _)
   | (with_reducible exact LeO.refl _)
   | (with_reducible exact LeO.none _)
   | (with_reducible refine LeO.ite ?_ ?_)
   | (with_reducible refine LeO.bind ?_ (fun _ => ?_))
   | exact ih0 _ _ _ _ _ _ _
   | exact slices_insertionSortCmpFunc_int_at_turn_day_before_bound.mono _ _ _ _ _ _
   | exact LeO.none _
   | refine LeO.ite ?_ ?_
   | refine LeO.bind ?_ (fun _ => ?_)
theorem slices_pdqsortCmpFunc_int_at_turn_day_before_bound.mono : ∀ a0 a1 a2 a3 a4 a5 k, LeO (slices_pdqsortCmpFunc_int_at_turn_day_before_bound.f k a0 a1 a2 a3 a4 a5) (slices_pdqsortCmpFunc_int_at_turn_day_before_bound.f (k + 1) a0 a1 a2 a3 a4 a5) := by
 intro a0 a1 a2 a3 a4 a5 k
 have ih0 := slices_pdqsortCmpFunc_int_at_turn_day_before_bound.mono_l k
 unfold slices_pdqsortCmpFunc_int_at_turn_day_before_bound.f
 repeat' first
   | (with_reducible exact ih0 _ _ _ _ _ _ _)
   | (with_reducible exact slices_insertionSortCmpFunc_int_at_turn_day_before_bound.mono _ _ _ _ _ _)
   | (with_reducible exact LeO.refl _)
   | (with_reducible exact LeO.none _)
   | (with_reducible refine LeO.ite ?_ ?_)
   | (with_reducible refine LeO.bind ?_ (fun _ => ?_))
   | exact ih0 _ _ _ _ _ _ _
   | exact slices_insertionSortCmpFunc_int_at_turn_day_before_bound.mono _ _ _ _ _ _
   | exact LeO.none _
   | refine LeO.ite ?_ ?_
   | refine LeO.bind ?_ (fun _ => ?_)
set_option maxHeartbeats 8000000 in
set_option maxRecDepth 100000 in
theorem slices_pdqsortCmpFunc_int_at_turn_day_before_bound.calls (k : Nat) (P0_ : Nat → Prop) (u9000_ : Value) (l0 : List Int) (a1 : Int) (a2 : Int) (a3 : Int) (A4_0 : Option Addr) (c4_0 : Nat) (l4_0 : List (S67)) (A4_1 : Option Addr) (c4_1 : Nat) (l4_1 : List Int) (r : List Int) (w0 w : World) (hB : Below w0.heap.size w0 w) (ho0 : Kd.R (Kd.int .i64) 3 w w0.heap.size P0_ u9000_ l0) (hr4_0 : ∀ W_, Kept w W_ (fun k_ => P0_ k_) → Kd.C k67 W_ A4_0 l4_0.length l4_0) (hc4_0 : l4_0.length ≤ c4_0) (hr4_1 : ∀ W_, Kept w W_ (fun k_ => P0_ k_) → Kd.C (Kd.int .i64) W_ A4_1 l4_1.length l4_1) (hc4_1 : l4_1.length ≤ c4_1) (h : slices_pdqsortCmpFunc_int_at_turn_day_before_bound.f k l0 a1 a2 a3 l4_0 l4_1 = some r) :
  Calls Tryz.prog 119 #[u9000_, .int .i64 a1, .int .i64 a2, .int .i64 a3, .func (.func 80) #[.agg #[.slice A4_0 l4_0.length c4_0, .slice A4_1 l4_1.length c4_1]] #[]] w fun e w' => e = .returned (.tuple #[]) ∧ Kd.R (Kd.int .i64) 3 w' w0.heap.size (fun k_ => (P0_ k_ ∨ w.heap.size ≤ k_)) u9000_ r ∧ Below w0.heap.size w0 w' ∧ Kept w w' (fun k_ => P0_ k_) := by
 have HO0 := Aside0.mk (show Kd.R (Kd.int .i64) 3 w w0.heap.size (fun k_ => (P0_ k_ ∨ w.heap.size ≤ k_)) u9000_ l0 from Kd.R_mono ho0 (fun k_ hk => (.inl hk)))
 have HR4_0 := Aside0.mk hr4_0
 have HC4_0 := Aside0.mk hc4_0
 clear hr4_0 hc4_0
 have HR4_1 := Aside0.mk hr4_1
 have HC4_1 := Aside0.mk hc4_1
 clear hr4_1 hc4_1
 have HK := Aside0.mk (Kept.refl w (fun k_ => P0_ k_))
 have HW0 := Aside0.mk hB.size
 have HB := Aside0.mk hB
 clear hB
 have H : (slices_pdqsortCmpFunc_int_at_turn_day_before_bound.l0 k l0 a1 a2 a3 true l4_0 l4_1) = some r := h
 clear h
 have H' := Aside0.mk H
 clear H
 go_enter Tryz.func119, Tryz.ntmps119
 go_wp2
 (try simp only [Act.put, List.setIfInBounds_toArray, List.set_cons_zero, List.set_cons_succ])
 go_loopg [1, 2, 3, 10] k (fun kq v1 v2 v3 v10 w' => ∃ (x0_1 : List Int) (x1_1 : Int) (x2_1 : Int) (x3_1 : Int) (x10_1 : Bool), v1 = .int .i64 x1_1 ∧ v2 = .int .i64 x2_1 ∧ v3 = .int .i64 x3_1 ∧ v10 = .bool x10_1 ∧ Aside0 (slices_pdqsortCmpFunc_int_at_turn_day_before_bound.l0 kq x0_1 x1_1 x2_1 x3_1 x10_1 l4_0 l4_1 = some r) ∧ Aside0 (kq ≤ k) ∧ Aside0 (Kd.R (Kd.int .i64) 3 w' w0.heap.size (fun k_ => (P0_ k_ ∨ w.heap.size ≤ k_)) u9000_ x0_1) ∧ Aside0 (Kept w w' (fun k_ => P0_ k_)) ∧ Aside0 (Below w0.heap.size w0 w'))
 case atStart => exact ⟨(l0), (a1), (a2), (a3), (true), (by first | rfl | (simp; done) | (simp [*]; done)), (by first | rfl | (simp; done) | (simp [*]; done)), (by first | rfl | (simp; done) | (simp [*]; done)), (by first | rfl | (simp; done) | (simp [*]; done)), H', ⟨Nat.le_refl _⟩, ⟨by (with_reducible repeat (first | apply Kd.R_alloc | apply Kd.R_drewN | apply Kd.R_drew)); exact HO0.out⟩, ⟨by repeat (first | (with_reducible first | exact HK.out | apply Kept.alloc | apply Kept.drewN | apply Kept.drew) | exact HK.out)⟩, ⟨pE HB⟩⟩
 case round =>
  clear H'
  try clear p2
  try clear c4
  obtain ⟨x0_1, x1_1, x2_1, x3_1, x10_1, rfl, rfl, rfl, rfl, HA, HK1, HO_0, HK, HB⟩ := hrel
  cases gk with
  | zero => exact absurd HA.out (by simp [slices_pdqsortCmpFunc_int_at_turn_day_before_bound.l0])
  | succ k1 =>
   have H := HA.out
   clear HA
   simp only [slices_pdqsortCmpFunc_int_at_turn_day_before_bound.l0] at H
   by_cases c6 : (wrap64 (x2_1 - x1_1)) ≤ 12
   ·rw [if_pos c6] at H
    have c6b0 : decide ((wrap64 (x2_1 - x1_1)) ≤ 12) = true := decide_eq_true c6
    clear c6
    obtain ⟨t101, A7, H⟩ := bi H
    obtain rfl := Option.some.inj H
    obtain ⟨Ao8, co8, eo8⟩ := Kd.R_slice HO_0.out
    subst eo8
    go_wp2_with (first | ((with_reducible refine gc 125 rfl ?_); refine gL 30 Tryz.func125 #[.slice Ao8 x0_1.length co8, .int .i64 x1_1, .int .i64 x2_1, .func (.func 80) #[.agg #[.slice A4_0 l4_0.length c4_0, .slice A4_1 l4_1.length c4_1]] #[]] ?_; (with_reducible refine (slices_insertionSortCmpFunc_int_at_turn_day_before_bound.calls k1 (fun k_ => some k_ = (.slice Ao8 x0_1.length co8 : Value).ownBlock) (.slice Ao8 x0_1.length co8) x0_1 x1_1 x2_1 _ _ l4_0 _ _ l4_1 t101 w0 _ ?side1 ?side2 ?side3 ?side4 ?side5 ?side6 A7.out).mono ?_); (case side1 => repeat (first | (with_reducible first | exact HB.out | apply below_alloc | apply pw_below_drewN | apply below_drew1) | exact HB.out)); (case side2 => exact Kd.R_tight rfl HO_0.out); (case side3 => exact Kd.C_kept_call HR4_0.out (by repeat (first | (with_reducible first | exact HK.out | apply Kept.alloc | apply Kept.drewN | apply Kept.drew) | exact HK.out)) (fun k_ hs_ => (fun e_ => (HO_0.out.1 k_ e_.symm)) hs_)); (case side4 => exact HC4_0.out); (case side5 => exact Kd.C_kept_call HR4_1.out (by repeat (first | (with_reducible first | exact HK.out | apply Kept.alloc | apply Kept.drewN | apply Kept.drew) | exact HK.out)) (fun k_ hs_ => (fun e_ => (HO_0.out.1 k_ e_.symm)) hs_)); (case side6 => exact HC4_1.out); rintro e w9 ⟨rfl, hy0, hb, hkp⟩; refine ⟨_, rfl, ?_⟩; replace HK := Aside0.mk (Kept.then_ (S := (fun k_ => P0_ k_)) (by repeat (first | (with_reducible first | exact HK.out | apply Kept.alloc | apply Kept.drewN | apply Kept.drew) | exact HK.out)) hkp (fun k_ hs_ => (fun e_ => (HO_0.out.1 k_ e_.symm)) hs_)); replace HO_0 := Aside0.mk (Kd.R_reok rfl hy0 (fun k_ e_ => HO_0.out.1 k_ e_)); replace HB := Aside0.mk (hb); clear hb hkp hy0))
    first | go_end0 | ((try simp only [Exit.inBlock, Exit.then]); refine bodyPost_ret (results_none rfl _ _ _) rfl ?_)
    exact ⟨eT, by (with_reducible repeat (first | apply Kd.R_alloc | apply Kd.R_drewN | apply Kd.R_drew)); exact HO_0.out, pE HB, by repeat (first | (with_reducible first | exact HK.out | apply Kept.alloc | apply Kept.drewN | apply Kept.drew) | exact HK.out)⟩
   ·rw [if_neg c6] at H
    have c6b0 : decide ((wrap64 (x2_1 - x1_1)) ≤ 12) = false := decide_eq_false c6
    clear c6
    by_cases c10 : x3_1 = 0
    ·rw [if_pos c10] at H
     exact absurd H (by simp)
    ·rw [if_neg c10] at H
     have c10b0 : (x3_1 == 0) = false := beq_eq_false_iff_ne.mpr c10
     have c10b1 : (x3_1 != 0) = true := bne_iff_ne.mpr c10
     by_cases c11 : x10_1 = true
     ·subst c11
      rw [if_pos rfl] at H
      exact absurd H (by simp)
     ·replace c11 := Bool.eq_false_iff.mpr c11
      subst c11
      rw [if_neg (show ¬ (false = true) by decide)] at H
      exact absurd H (by simp)
def slices_SortFunc_int_int_at_turn_day_before_bound.f (k : Nat) (l0 : List Int) (l1_0 : List (S67)) (l1_1 : List Int) : Option (List Int) := (bits_Len.f k (IntKind.u64.wrap ((l0.length : Int)))).bind fun t101 => ((slices_pdqsortCmpFunc_int_at_turn_day_before_bound.f k l0 0 (l0.length : Int) t101 l1_0 l1_1).bind fun t102 => (some t102))
theorem slices_SortFunc_int_int_at_turn_day_before_bound.mono : ∀ a0 a1 a2 k, LeO (slices_SortFunc_int_int_at_turn_day_before_bound.f k a0 a1 a2) (slices_SortFunc_int_int_at_turn_day_before_bound.f (k + 1) a0 a1 a2) := by
 intro a0 a1 a2 k
 unfold slices_SortFunc_int_int_at_turn_day_before_bound.f
 repeat' first
   | (with_reducible exact bits_Len.mono _ _)
   | (with_reducible exact slices_pdqsortCmpFunc_int_at_turn_day_before_bound.mono _ _ _ _ _ _ _)
   | (with_reducible exact LeO.refl _)
   | (with_reducible exact LeO.none _)
   | (with_reducible refine LeO.ite ?_ ?_)
   | (with_reducible refine LeO.bind ?_ (fun _ => ?_))
   | exact bits_Len.mono _ _
   | exact slices_pdqsortCmpFunc_int_at_turn_day_before_bound.mono _ _ _ _ _ _ _
   | exact LeO.none _
   | refine LeO.ite ?_ ?_
   | refine LeO.bind ?_ (fun _ => ?_)
set_option maxHeartbeats 8000000 in
set_option maxRecDepth 100000 in
theorem slices_SortFunc_int_int_at_turn_day_before_bound.calls (k : Nat) (P0_ : Nat → Prop) (u9000_ : Value) (l0 : List Int) (A1_0 : Option Addr) (c1_0 : Nat) (l1_0 : List (S67)) (A1_1 : Option Addr) (c1_1 : Nat) (l1_1 : List Int) (r : List Int) (w0 w : World) (hB : Below w0.heap.size w0 w) (ho0 : Kd.R (Kd.int .i64) 3 w w0.heap.size P0_ u9000_ l0) (hr1_0 : ∀ W_, Kept w W_ (fun k_ => P0_ k_) → Kd.C k67 W_ A1_0 l1_0.length l1_0) (hc1_0 : l1_0.length ≤ c1_0) (hr1_1 : ∀ W_, Kept w W_ (fun k_ => P0_ k_) → Kd.C (Kd.int .i64) W_ A1_1 l1_1.length l1_1) (hc1_1 : l1_1.length ≤ c1_1) (h : slices_SortFunc_int_int_at_turn_day_before_bound.f k l0 l1_0 l1_1 = some r) :
  Calls Tryz.prog 97 #[u9000_, .func (.func 80) #[.agg #[.slice A1_0 l1_0.length c1_0, .slice A1_1 l1_1.length c1_1]] #[]] w fun e w' => e = .returned (.tuple #[]) ∧ Kd.R (Kd.int .i64) 3 w' w0.heap.size (fun k_ => (P0_ k_ ∨ w.heap.size ≤ k_)) u9000_ r ∧ Below w0.heap.size w0 w' ∧ Kept w w' (fun k_ => P0_ k_) := by
 have HO0 := Aside0.mk (show Kd.R (Kd.int .i64) 3 w w0.heap.size (fun k_ => (P0_ k_ ∨ w.heap.size ≤ k_)) u9000_ l0 from Kd.R_mono ho0 (fun k_ hk => (.inl hk)))
 have HR1_0 := Aside0.mk hr1_0
 have HC1_0 := Aside0.mk hc1_0
 clear hr1_0 hc1_0
 have HR1_1 := Aside0.mk hr1_1
 have HC1_1 := Aside0.mk hc1_1
 clear hr1_1 hc1_1
 have HK := Aside0.mk (Kept.refl w (fun k_ => P0_ k_))
 have HW0 := Aside0.mk hB.size
 have HB := Aside0.mk hB
 clear hB
 have H : ((bits_Len.f k (IntKind.u64.wrap ((l0.length : Int)))).bind fun t101 => ((slices_pdqsortCmpFunc_int_at_turn_day_before_bound.f k l0 0 (l0.length : Int) t101 l1_0 l1_1).bind fun t102 => (some t102))) = some r := h
 clear h
 obtain ⟨t101, A3, H⟩ := bi H
 obtain ⟨t102, A4, H⟩ := bi H
 obtain rfl := Option.some.inj H
 obtain ⟨Ao5, co5, eo5⟩ := Kd.R_slice HO0.out
 subst eo5
 go_enter Tryz.func97, Tryz.ntmps97
 go_wp2_with (first | ((with_reducible refine gc 120 rfl ?_); refine gL 11 Tryz.func120 #[.int .u64 (IntKind.u64.wrap ((l0.length : Int)))] ?_; (with_reducible refine (bits_Len.calls k (IntKind.u64.wrap ((l0.length : Int))) t101 _ A3.out).mono ?_); rintro e w' ⟨rfl, ⟨nd, rfl⟩⟩; refine ⟨_, rfl, ?_⟩) | ((with_reducible refine gc 119 rfl ?_); refine gL 13 Tryz.func119 #[.slice Ao5 l0.length co5, .int .i64 0, .int .i64 (l0.length : Int), .int .i64 t101, .func (.func 80) #[.agg #[.slice A1_0 l1_0.length c1_0, .slice A1_1 l1_1.length c1_1]] #[]] ?_; (with_reducible refine (slices_pdqsortCmpFunc_int_at_turn_day_before_bound.calls k (fun k_ => some k_ = (.slice Ao5 l0.length co5 : Value).ownBlock) (.slice Ao5 l0.length co5) l0 0 (l0.length : Int) t101 _ _ l1_0 _ _ l1_1 t102 w0 _ ?side1 ?side2 ?side3 ?side4 ?side5 ?side6 A4.out).mono ?_); (case side1 => repeat (first | (with_reducible first | exact HB.out | apply below_alloc | apply pw_below_drewN | apply below_drew1) | exact HB.out)); (case side2 => exact Kd.R_tight rfl HO0.out); (case side3 => exact Kd.C_kept_call HR1_0.out (by repeat (first | (with_reducible first | exact HK.out | apply Kept.alloc | apply Kept.drewN | apply Kept.drew) | exact HK.out)) (fun k_ hs_ => (fun e_ => (HO0.out.1 k_ e_.symm)) hs_)); (case side4 => exact HC1_0.out); (case side5 => exact Kd.C_kept_call HR1_1.out (by repeat (first | (with_reducible first | exact HK.out | apply Kept.alloc | apply Kept.drewN | apply Kept.drew) | exact HK.out)) (fun k_ hs_ => (fun e_ => (HO0.out.1 k_ e_.symm)) hs_)); (case side6 => exact HC1_1.out); rintro e w6 ⟨rfl, hy0, hb, hkp⟩; refine ⟨_, rfl, ?_⟩; replace HK := Aside0.mk (Kept.then_ (S := (fun k_ => P0_ k_)) (by repeat (first | (with_reducible first | exact HK.out | apply Kept.alloc | apply Kept.drewN | apply Kept.drew) | exact HK.out)) hkp (fun k_ hs_ => (fun e_ => (HO0.out.1 k_ e_.symm)) hs_)); replace HO0 := Aside0.mk (Kd.R_reok rfl hy0 (fun k_ e_ => HO0.out.1 k_ e_)); replace HB := Aside0.mk (hb); clear hb hkp hy0))
 first | go_end0 | ((try simp only [Exit.inBlock, Exit.then]); refine bodyPost_ret (results_none rfl _ _ _) rfl ?_)
 exact ⟨eT, by (with_reducible repeat (first | apply Kd.R_alloc | apply Kd.R_drewN | apply Kd.R_drew)); exact HO0.out, pE HB, by repeat (first | (with_reducible first | exact HK.out | apply Kept.alloc | apply Kept.drewN | apply Kept.drew) | exact HK.out)⟩
def turn_day_order.l0 : Nat → List Int → Int → Int → List (S67) → List Int → Option (List Int)
 | 0, _, _, _, _, _ => none
 | k + 1, x2, x7, x8, x102000, x102001 => if x8 < x7 then (if x2.length < 17592186044416 then (turn_day_order.l0 k (x2 ++ [x8]) x7 (wrap64 (x8 + 1)) x102000 x102001) else (none)) else ((slices_SortFunc_int_int_at_turn_day_before_bound.f k x2 x102000 x102001).bind fun t106 => (some t106))
def turn_day_order.f (k : Nat) (l0_0 : List (S67)) (l0_1 : List Int) : Option (List Int) := turn_day_order.l0 k ([] : List Int) (l0_0.length : Int) 0 l0_0 l0_1
theorem turn_day_order.mono_l : ∀ k, (∀ y0 y1 y2 y3 y4, LeO (turn_day_order.l0 k y0 y1 y2 y3 y4) (turn_day_order.l0 (k + 1) y0 y1 y2 y3 y4))
 | 0 => fun _ _ _ _ _ r h => by simp [turn_day_order.l0] at h
 | k + 1 => by
  have ih0 := turn_day_order.mono_l k
  ·intro y0 y1 y2 y3 y4
   unfold turn_day_order.l0
   repeat' first
   | (with_reducible exact ih0 _ _ _ _ _)
   | (with_reducible exact slices_SortFunc_int_int_at_turn_day_before_bound.mono _ _ _ _)
   | (with_reducible exact LeO.refl _)
   | (with_reducible exact LeO.none _)
   | (with_reducible refine LeO.ite ?_ ?_)
   | (with_reducible refine LeO.bind ?_ (fun _ => ?_))
   | exact ih0 _ _ _ _ _
   | exact slices_SortFunc_int_int_at_turn_day_before_bound.mono _ _ _ _
   | exact LeO.none _
   | refine LeO.ite ?_ ?_
   | refine LeO.bind ?_ (fun _ => ?_)
theorem turn_day_order.mono : ∀ a0 a1 k, LeO (turn_day_order.f k a0 a1) (turn_day_order.f (k + 1) a0 a1) := by
 intro a0 a1 k
 have ih0 := turn_day_order.mono_l k
 unfold turn_day_order.f
 repeat' first
   | (with_reducible exact ih0 _ _ _ _ _)
   | (with_reducible exact slices_SortFunc_int_int_at_turn_day_before_bound.mono _ _ _ _)
   | (with_reducible exact LeO.refl _)
   | (with_reducible exact LeO.none _)
   | (with_reducible refine LeO.ite ?_ ?_)
   | (with_reducible refine LeO.bind ?_ (fun _ => ?_))
   | exact ih0 _ _ _ _ _
   | exact slices_SortFunc_int_int_at_turn_day_before_bound.mono _ _ _ _
   | exact LeO.none _
   | refine LeO.ite ?_ ?_
   | refine LeO.bind ?_ (fun _ => ?_)
set_option maxHeartbeats 8000000 in
set_option maxRecDepth 100000 in
theorem turn_day_order.calls (k : Nat) (A0_0 : Option Addr) (c0_0 : Nat) (l0_0 : List (S67)) (A0_1 : Option Addr) (c0_1 : Nat) (l0_1 : List Int) (r : List Int) (w : World) (hr0_0 : Kd.C k67 w A0_0 l0_0.length l0_0) (hc0_0 : l0_0.length ≤ c0_0) (hr0_1 : Kd.C (Kd.int .i64) w A0_1 l0_1.length l0_1) (hc0_1 : l0_1.length ≤ c0_1) (h : turn_day_order.f k l0_0 l0_1 = some r) :
  Calls Tryz.prog 63 #[.agg #[.slice A0_0 l0_0.length c0_0, .slice A0_1 l0_1.length c0_1]] w fun e w' => ∃ v0_ : Value, e = .returned (v0_) ∧ Kd.R (Kd.int .i64) 3 w' w.heap.size (fun _ => True) v0_ r ∧ Below w.heap.size w w' := by
 have hu99 := Tryz.underlying99
 have HR0_0 := Aside0.mk hr0_0
 have HC0_0 := Aside0.mk hc0_0
 clear hr0_0 hc0_0
 have HR0_1 := Aside0.mk hr0_1
 have HC0_1 := Aside0.mk hc0_1
 clear hr0_1 hc0_1
 have HB := Aside0.mk (Below.refl w.heap.size w)
 have H : (turn_day_order.l0 k ([] : List Int) (l0_0.length : Int) 0 l0_0 l0_1) = some r := h
 clear h
 have H' := Aside0.mk H
 clear H
 go_enter Tryz.func63, Tryz.ntmps63
 go_wp2_with (first | ((with_reducible refine gate_dst (N := 1) rfl ?_); refine bx 1 #[.slice A0_0 l0_0.length c0_0, .slice A0_1 l0_1.length c0_1] 99 ?_; intro gb101 hg w2 hbox hb; have BK101 := hbox; have GW101 := gs HB hg; have GE101 := gs HB hg; replace HB := bs HB hb; clear hb hbox hg; obtain ⟨hcz3_0, hcz3_1, hfz3_0, hfz3_1⟩ := cf2 BK101))
 go_loopg [2, 8] k (fun kq v2 v8 w' => ∃ (x2_1 : List Int) (x8_1 : Int), v8 = .int .i64 x8_1 ∧ Aside0 (turn_day_order.l0 kq x2_1 (l0_0.length : Int) x8_1 l0_0 l0_1 = some r) ∧ Aside0 (kq ≤ k) ∧ Aside0 (Kd.R (Kd.int .i64) 3 w' w.heap.size (fun _ => True) v2 x2_1) ∧ Aside0 (w'.heap[gb101]? = some (.cells #[(.slice A0_0 l0_0.length c0_0), (.slice A0_1 l0_1.length c0_1)] 99 (0, 0))) ∧ Aside0 (Below w.heap.size w w'))
 case atStart => exact ⟨(([] : List Int)), (0), (by first | rfl | (simp; done) | (simp [*]; done)), H', ⟨Nat.le_refl _⟩, ⟨by first | exact Kd.R_nil _ _ _ _ _ | exact Kd.N_nil _ _ _ _ _ | exact Kd.V_nil _ _ _ _ _ | exact Kd.Q_nil _ _ _ _ _ | exact Kd.S_nil _ _ _ _ _⟩, ⟨by (with_reducible repeat (first | refine blk_drewN ?_ _ | refine blk_drew ?_ | refine blk_alloc ?_ _)); exact BK101.out⟩, ⟨pE HB⟩⟩
 case round =>
  clear H'
  try clear p2
  try clear hcz3_0
  try clear hcz3_1
  try clear hfz3_0
  try clear hfz3_1
  obtain ⟨x2_1, x8_1, rfl, HA, HK1, HO_2, BK101, HB⟩ := hrel
  cases gk with
  | zero => exact absurd HA.out (by simp [turn_day_order.l0])
  | succ k1 =>
   have H := HA.out
   clear HA
   simp only [turn_day_order.l0] at H
   by_cases c4 : x8_1 < (l0_0.length : Int)
   ·rw [if_pos c4] at H
    have c4b0 : decide (x8_1 < (l0_0.length : Int)) = true := decide_eq_true c4
    clear c4
    by_cases c5 : x2_1.length < 17592186044416
    ·rw [if_pos c5] at H
     have LMc5 := Aside0.mk c5
     clear c5
     obtain ⟨y102, hy102⟩ : ∃ y_ : List Int, y_ = (x2_1 ++ [x8_1]) := ⟨_, rfl⟩
     replace H : (turn_day_order.l0 k1 y102 (l0_0.length : Int) (wrap64 (x8_1 + 1)) l0_0 l0_1) = some r := yy hy102 H
     have Ny102 := Aside0.mk hy102
     clear hy102
     have H' := Aside0.mk H
     clear H
     go_wp2_with (first | ((with_reducible refine gate_builtin (b := .append) (xs := #[.tmp 11, .tmp 13]) rfl ?_); at_builtin; refine Kd.R_append (Kd.int .i64) (w0 := w) w.heap.size rfl (.tmp 11) (.tmp 13) 23 3 (.int .i64 0) 8 rfl Tryz.underlying23 info3 rfl (by decide) (by omega) u2 x2_1 x8_1 [.int .i64 x8_1] (fun _ => True) (fun _ => False) rfl rfl ?aP (fun _ hk => hk.elim) ?aF ?aO ?aB ?aS ?aL ?_; (case aP => exact rfl); (case aB => exact (pE HB)); (case aF => exact (fun _ _ => trivial)); (case aO => exact (pR HO_2.out)); (case aS => exact (below_size (pE HB))); (case aL => have := LMc5.out; omega); intro v103 w6 ho hb hg hat; rw [← Ny102.out] at ho; replace BK101 := Aside0.mk (blk_grown (g := gb101) (o := .cells #[.slice A0_0 l0_0.length c0_0, .slice A0_1 l0_1.length c0_1] 99 (0, 0)) (pB BK101.out) hg (Kd.R_ne HO_2.out BK101.out (by decide))); replace HB := Aside0.mk (hb); have HO104 := Aside0.mk (ho); clear HO_2; clear ho hb hg hat))
     go_roundg k1
     case measure => have := HK1.out; omega
     case rel => exact ⟨(y102), (wrap64 (x8_1 + 1)), (by first | rfl | (simp; done) | (simp [*]; done)), H', ⟨by have := HK1.out; omega⟩, ⟨by (with_reducible repeat (first | apply Kd.R_alloc | apply Kd.R_drewN | apply Kd.R_drew)); exact HO104.out⟩, ⟨by (with_reducible repeat (first | refine blk_drewN ?_ _ | refine blk_drew ?_ | refine blk_alloc ?_ _)); exact BK101.out⟩, ⟨pE HB⟩⟩
    ·rw [if_neg c5] at H
     exact absurd H (by simp)
   ·rw [if_neg c4] at H
    have c4b0 : decide (x8_1 < (l0_0.length : Int)) = false := decide_eq_false c4
    clear c4
    obtain ⟨t106, A7, H⟩ := bi H
    obtain rfl := Option.some.inj H
    obtain ⟨_, _, _, _⟩ := cf2 BK101
    obtain ⟨Ao9, co9, eo9⟩ := Kd.R_slice HO_2.out
    subst eo9
    go_wp2_with (first | ((with_reducible refine gc 97 rfl ?_); refine gL 19 Tryz.func97 #[.slice Ao9 x2_1.length co9, .func (.func 80) #[.agg #[.slice A0_0 l0_0.length c0_0, .slice A0_1 l0_1.length c0_1]] #[]] ?_; (with_reducible refine (slices_SortFunc_int_int_at_turn_day_before_bound.calls k1 (fun k_ => some k_ = (.slice Ao9 x2_1.length co9 : Value).ownBlock) (.slice Ao9 x2_1.length co9) x2_1 _ _ l0_0 _ _ l0_1 t106 w _ ?side1 ?side2 ?side3 ?side4 ?side5 ?side6 A7.out).mono ?_); (case side1 => repeat (first | (with_reducible first | exact HB.out | apply below_alloc | apply pw_below_drewN | apply below_drew1 | refine below_set ?_ GE101.out) | exact HB.out)); (case side2 => exact Kd.R_tight rfl HO_2.out); (case side3 => exact Kd.C_kept_came k67_heap HR0_0.out (pE HB) (fun k_ hs_ => (fun e_ => Kd.R_base HO_2.out k_ e_.symm) hs_)); (case side4 => exact HC0_0.out); (case side5 => exact Kd.C_kept_came (Kd.heap_int .i64) HR0_1.out (pE HB) (fun k_ hs_ => (fun e_ => Kd.R_base HO_2.out k_ e_.symm) hs_)); (case side6 => exact HC0_1.out); rintro e w10 ⟨rfl, hy0, hb, hkp⟩; refine ⟨_, rfl, ?_⟩; replace BK101 := Aside0.mk (blk_kept (pB BK101.out) hkp (fun hs_ => (fun e_ => (Kd.R_ne HO_2.out BK101.out (by decide)) e_) hs_)); replace HO_2 := Aside0.mk (Kd.R_reok rfl hy0 (fun k_ e_ => HO_2.out.1 k_ e_)); replace HB := Aside0.mk (hb); clear hb hkp hy0))
    go_ret
    exact ⟨_, eT, by (with_reducible repeat (first | apply Kd.R_alloc | apply Kd.R_drewN | apply Kd.R_drew)); exact HO_2.out, pE HB⟩
def turn_Order.f (k : Nat) (l0_0 : List (S67)) (l0_1 : List Int) : Option (List Int × Int) := (turn_open.f k l0_0 l0_1 1 0).bind fun bt102 => (if bt102.2.2 = 0 then ((turn_day_order.f k bt102.1 bt102.2.1).bind fun t110 => (some (t110, 0))) else (some (([] : List Int), bt102.2.2)))
theorem turn_Order.mono : ∀ a0 a1 k, LeO (turn_Order.f k a0 a1) (turn_Order.f (k + 1) a0 a1) := by
 intro a0 a1 k
 unfold turn_Order.f
 repeat' first
   | (with_reducible exact turn_day_order.mono _ _ _)
   | (with_reducible exact turn_open.mono _ _ _ _ _)
   | (with_reducible exact LeO.refl _)
   | (with_reducible exact LeO.none _)
   | (with_reducible refine LeO.ite ?_ ?_)
   | (with_reducible refine LeO.bind ?_ (fun _ => ?_))
   | exact turn_day_order.mono _ _ _
   | exact turn_open.mono _ _ _ _ _
   | exact LeO.none _
   | refine LeO.ite ?_ ?_
   | refine LeO.bind ?_ (fun _ => ?_)
set_option maxHeartbeats 8000000 in
set_option maxRecDepth 100000 in
theorem turn_Order.calls (k : Nat) (A0_0 : Option Addr) (c0_0 : Nat) (l0_0 : List (S67)) (A0_1 : Option Addr) (c0_1 : Nat) (l0_1 : List Int) (r1 : List Int) (r2 : Int) (w : World) (hr0_0 : Kd.C k67 w A0_0 l0_0.length l0_0) (hc0_0 : l0_0.length ≤ c0_0) (hr0_1 : Kd.C (Kd.int .i64) w A0_1 l0_1.length l0_1) (hc0_1 : l0_1.length ≤ c0_1) (h : turn_Order.f k l0_0 l0_1 = some (r1, r2)) :
  Calls Tryz.prog 20 #[.agg #[.slice A0_0 l0_0.length c0_0, .slice A0_1 l0_1.length c0_1]] w fun e w' => ∃ v0_ : Value, e = .returned (.tuple #[v0_, .int .i64 r2]) ∧ Kd.R (Kd.int .i64) 3 w' w.heap.size (fun _ => True) v0_ r1 ∧ Below w.heap.size w w' := by
 have hu25 := Tryz.underlying25
 have hu99 := Tryz.underlying99
 have HR0_0 := Aside0.mk hr0_0
 have HC0_0 := Aside0.mk hc0_0
 clear hr0_0 hc0_0
 have HR0_1 := Aside0.mk hr0_1
 have HC0_1 := Aside0.mk hc0_1
 clear hr0_1 hc0_1
 have HB := Aside0.mk (Below.refl w.heap.size w)
 have H : ((turn_open.f k l0_0 l0_1 1 0).bind fun bt102 => (if bt102.2.2 = 0 then ((turn_day_order.f k bt102.1 bt102.2.1).bind fun t110 => (some (t110, 0))) else (some (([] : List Int), bt102.2.2)))) = some (r1, r2) := h
 clear h
 obtain ⟨⟨t102, t105, t108⟩, A2, H⟩ := bi H
 by_cases c3 : t108 = 0
 ·rw [if_pos c3] at H
  have c3b0 : (t108 == 0) = true := beq_iff_eq.mpr c3
  have c3b1 : (t108 != 0) = false := bne_eq_false_iff_eq.mpr c3
  clear c3
  obtain ⟨t110, A4, H⟩ := bi H
  simp only [Option.some.injEq, Prod.mk.injEq] at H
  obtain ⟨rfl, rfl⟩ := H
  go_enter Tryz.func20, Tryz.ntmps20
  go_wp2_with (first | ((with_reducible refine gate_dst (N := 1) rfl ?_); refine bx 1 #[.slice A0_0 l0_0.length c0_0, .slice A0_1 l0_1.length c0_1] 25 ?_; intro gb101 hg w5 hbox hb; have BK101 := hbox; have GW101 := gs HB hg; have GE101 := gs HB hg; replace HB := bs HB hb; clear hb hbox hg; obtain ⟨_, _, _, _⟩ := cf2 BK101) | ((with_reducible refine gc 62 rfl ?_); refine gL 8 Tryz.func62 #[.agg #[.slice A0_0 l0_0.length c0_0, .slice A0_1 l0_1.length c0_1], .int .i64 1, .int .i64 0] ?_; (with_reducible refine (turn_open.calls k (fun k_ => k_ < w.heap.size) _ _ l0_0 (fun k_ => k_ < w.heap.size) _ _ l0_1 1 0 t102 t105 t108 _ ?side1 ?side2 A2.out).mono ?_); (case side1 => exact Kd.V_mk HC0_0.out (Kd.F_below (Kd.C_F k67_heap HR0_0.out) (pE HB))); (case side2 => exact Kd.V_mk HC0_1.out (Kd.F_below (Kd.C_F (Kd.heap_int .i64) HR0_1.out) (pE HB))); rintro e w7 ⟨v103, v106, rfl, ho0, ho1, hb⟩; refine ⟨_, rfl, ?_⟩; have HO104 := Aside0.mk (Kd.V_lower (Kd.V_mono (ok' := fun k_ => k_ ≠ gb101) ho0 (fun k_ hk_ => Or.elim hk_ (fun hs_ => Or.elim hs_ (fun hs_ => fun e_ => Nat.not_le.2 hs_ (by rw [e_]; exact GW101.out)) (fun hs_ => fun e_ => Nat.not_le.2 hs_ (by rw [e_]; exact GW101.out))) (fun hn_ => (Kd.freshB (g := gb101) (o := .cells #[.slice A0_0 l0_0.length c0_0, .slice A0_1 l0_1.length c0_1] 25 (0, 0)) (pB BK101.out) k_ hn_)))) (below_size (pE HB))); have HO107 := Aside0.mk (Kd.V_lower (Kd.V_mono (ok' := fun k_ => k_ ≠ gb101) ho1 (fun k_ hk_ => Or.elim hk_ (fun hs_ => Or.elim hs_ (fun hs_ => fun e_ => Nat.not_le.2 hs_ (by rw [e_]; exact GW101.out)) (fun hs_ => fun e_ => Nat.not_le.2 hs_ (by rw [e_]; exact GW101.out))) (fun hn_ => (Kd.freshB (g := gb101) (o := .cells #[.slice A0_0 l0_0.length c0_0, .slice A0_1 l0_1.length c0_1] 25 (0, 0)) (pB BK101.out) k_ hn_)))) (below_size (pE HB))); replace BK101 := bb BK101 hb; replace HB := bs HB hb; clear hb ho0 ho1) | ((with_reducible refine gate_dst (N := 4) rfl ?_); refine bx 4 #[.slice none 0 0, .slice none 0 0] 99 ?_; intro gb109 hg w8 hbox hb; replace HO104 := ve HO104 hg hb; replace HO107 := ve HO107 hg hb; have BK109 := hbox; have GW109 := gs HB hg; have GE109 := gs HB hg; replace HB := bs HB hb; have NB101_109 := nl BK101 hg; have NB109_101 := nr BK101 hg; replace BK101 := bb BK101 hb; clear hb hbox hg; obtain ⟨Ao9, co9, eo9⟩ := Kd.V_slice HO104.out; subst eo9; have hnb10 := NB109_101.out; have hnc10 := NB101_109.out; obtain ⟨_, _, _, _⟩ := cf2 BK109; obtain ⟨Ao12, co12, eo12⟩ := Kd.V_slice HO107.out; subst eo12) | ((with_reducible refine gc 63 rfl ?_); refine gL 15 Tryz.func63 #[.agg #[.slice Ao9 t102.length co9, .slice Ao12 t105.length co12]] ?_; (with_reducible refine (turn_day_order.calls k _ _ t102 _ _ t105 t110 _ ?side1 ?side2 ?side3 ?side4 A4.out).mono ?_); (case side1 => refine (Kd.V_reads' (e := 67) (base := w.heap.size) (ok := fun k_ => (k_ ≠ gb101 ∧ k_ ≠ gb109)) (n := t102.length) (c := co9) ?_).2.2; exact (by refine pV ?_; exact (Kd.V_mono (Kd.V_far (p := ⟨gb109, 1, none⟩) (Kd.V_far (p := ⟨gb109, 0, none⟩) (Kd.V_mono HO104.out (fun k_ hk => (⟨hk, hk.2⟩ : _ ∧ k_ ≠ gb109))) (fun _ hk => hk.2) (.slice Ao9 t102.length co9)) (fun _ hk => hk.2) (.slice Ao12 t105.length co12)) (fun _ h_ => h_.1)))); (case side2 => exact (Kd.V_reads' HO104.out).2.1); (case side3 => refine (Kd.V_reads' (e := 3) (base := w.heap.size) (ok := fun k_ => (k_ ≠ gb101 ∧ k_ ≠ gb109)) (n := t105.length) (c := co12) ?_).2.2; exact (by refine pV ?_; exact (Kd.V_mono (Kd.V_far (p := ⟨gb109, 1, none⟩) (Kd.V_far (p := ⟨gb109, 0, none⟩) (Kd.V_mono HO107.out (fun k_ hk => (⟨hk, hk.2⟩ : _ ∧ k_ ≠ gb109))) (fun _ hk => hk.2) (.slice Ao9 t102.length co9)) (fun _ hk => hk.2) (.slice Ao12 t105.length co12)) (fun _ h_ => h_.1)))); (case side4 => exact (Kd.V_reads' HO107.out).2.1); rintro e w13 ⟨v111, rfl, ho0, hb⟩; refine ⟨_, rfl, ?_⟩; replace HO104 := Aside0.mk (Kd.V_elder' (by refine pV ?_; exact (Kd.V_mono (Kd.V_far (p := ⟨gb109, 1, none⟩) (Kd.V_far (p := ⟨gb109, 0, none⟩) (Kd.V_mono HO104.out (fun k_ hk => (⟨hk, hk.2⟩ : _ ∧ k_ ≠ gb109))) (fun _ hk => hk.2) (.slice Ao9 t102.length co9)) (fun _ hk => hk.2) (.slice Ao12 t105.length co12)) (fun _ h_ => h_.1))) (Kd.R_base ho0) hb); replace HO107 := Aside0.mk (Kd.V_elder' (by refine pV ?_; exact (Kd.V_mono (Kd.V_far (p := ⟨gb109, 1, none⟩) (Kd.V_far (p := ⟨gb109, 0, none⟩) (Kd.V_mono HO107.out (fun k_ hk => (⟨hk, hk.2⟩ : _ ∧ k_ ≠ gb109))) (fun _ hk => hk.2) (.slice Ao9 t102.length co9)) (fun _ hk => hk.2) (.slice Ao12 t105.length co12)) (fun _ h_ => h_.1))) (Kd.R_base ho0) hb); have HO112 := rl ho0 HB; replace BK101 := bf BK101 hb; replace BK109 := Aside0.mk (blk_below (g := gb109) (o := .cells #[.slice Ao9 t102.length co9, .slice Ao12 t105.length co12] 99 (0, 0)) (by refine pB ?_; refine blk_put (cs := #[.slice Ao9 t102.length co9, .slice none 0 0]) ?_ 1 _ rfl; refine pB ?_; refine blk_put (cs := #[.slice none 0 0, .slice none 0 0]) ?_ 0 _ rfl; (with_reducible repeat (first | refine blk_drewN ?_ _ | refine blk_drew ?_ | refine blk_alloc ?_ _)); exact BK109.out) hb); replace HB := bs HB hb; clear hb ho0))
  go_ret2
  exact ⟨_, eT, by (with_reducible repeat (first | apply Kd.R_alloc | apply Kd.R_drewN | apply Kd.R_drew)); exact HO112.out, pE HB⟩
 ·rw [if_neg c3] at H
  have c3b0 : (t108 == 0) = false := beq_eq_false_iff_ne.mpr c3
  have c3b1 : (t108 != 0) = true := bne_iff_ne.mpr c3
  simp only [Option.some.injEq, Prod.mk.injEq] at H
  obtain ⟨rfl, rfl⟩ := H
  go_enter Tryz.func20, Tryz.ntmps20
  go_wp2_with (first | ((with_reducible refine gate_dst (N := 1) rfl ?_); refine bx 1 #[.slice A0_0 l0_0.length c0_0, .slice A0_1 l0_1.length c0_1] 25 ?_; intro gb101 hg w14 hbox hb; have BK101 := hbox; have GW101 := gs HB hg; have GE101 := gs HB hg; replace HB := bs HB hb; clear hb hbox hg; obtain ⟨_, _, _, _⟩ := cf2 BK101) | ((with_reducible refine gc 62 rfl ?_); refine gL 8 Tryz.func62 #[.agg #[.slice A0_0 l0_0.length c0_0, .slice A0_1 l0_1.length c0_1], .int .i64 1, .int .i64 0] ?_; (with_reducible refine (turn_open.calls k (fun k_ => k_ < w.heap.size) _ _ l0_0 (fun k_ => k_ < w.heap.size) _ _ l0_1 1 0 t102 t105 t108 _ ?side1 ?side2 A2.out).mono ?_); (case side1 => exact Kd.V_mk HC0_0.out (Kd.F_below (Kd.C_F k67_heap HR0_0.out) (pE HB))); (case side2 => exact Kd.V_mk HC0_1.out (Kd.F_below (Kd.C_F (Kd.heap_int .i64) HR0_1.out) (pE HB))); rintro e w16 ⟨v103, v106, rfl, ho0, ho1, hb⟩; refine ⟨_, rfl, ?_⟩; have HO104 := Aside0.mk (Kd.V_lower (Kd.V_mono (ok' := fun k_ => k_ ≠ gb101) ho0 (fun k_ hk_ => Or.elim hk_ (fun hs_ => Or.elim hs_ (fun hs_ => fun e_ => Nat.not_le.2 hs_ (by rw [e_]; exact GW101.out)) (fun hs_ => fun e_ => Nat.not_le.2 hs_ (by rw [e_]; exact GW101.out))) (fun hn_ => (Kd.freshB (g := gb101) (o := .cells #[.slice A0_0 l0_0.length c0_0, .slice A0_1 l0_1.length c0_1] 25 (0, 0)) (pB BK101.out) k_ hn_)))) (below_size (pE HB))); have HO107 := Aside0.mk (Kd.V_lower (Kd.V_mono (ok' := fun k_ => k_ ≠ gb101) ho1 (fun k_ hk_ => Or.elim hk_ (fun hs_ => Or.elim hs_ (fun hs_ => fun e_ => Nat.not_le.2 hs_ (by rw [e_]; exact GW101.out)) (fun hs_ => fun e_ => Nat.not_le.2 hs_ (by rw [e_]; exact GW101.out))) (fun hn_ => (Kd.freshB (g := gb101) (o := .cells #[.slice A0_0 l0_0.length c0_0, .slice A0_1 l0_1.length c0_1] 25 (0, 0)) (pB BK101.out) k_ hn_)))) (below_size (pE HB))); replace BK101 := bb BK101 hb; replace HB := bs HB hb; clear hb ho0 ho1) | ((with_reducible refine gate_dst (N := 4) rfl ?_); refine bx 4 #[.slice none 0 0, .slice none 0 0] 99 ?_; intro gb109 hg w17 hbox hb; replace HO104 := ve HO104 hg hb; replace HO107 := ve HO107 hg hb; have BK109 := hbox; have GW109 := gs HB hg; have GE109 := gs HB hg; replace HB := bs HB hb; have NB101_109 := nl BK101 hg; have NB109_101 := nr BK101 hg; replace BK101 := bb BK101 hb; clear hb hbox hg; obtain ⟨Ao18, co18, eo18⟩ := Kd.V_slice HO104.out; subst eo18; have hnb19 := NB109_101.out; have hnc19 := NB101_109.out; obtain ⟨_, _, _, _⟩ := cf2 BK109; obtain ⟨Ao21, co21, eo21⟩ := Kd.V_slice HO107.out; subst eo21))
  go_ret2
  exact ⟨_, eT, by first | exact Kd.R_nil _ _ _ _ _ | exact Kd.N_nil _ _ _ _ _ | exact Kd.V_nil _ _ _ _ _ | exact Kd.Q_nil _ _ _ _ _ | exact Kd.S_nil _ _ _ _ _, pE HB⟩
mutual
def walkmillref04_Order.l0 : Nat → List Int → Int → List (S67) → List Int → Option (List Int)
 | 0, _, _, _, _ => none
 | k + 1, x3, x4, x102000, x102001 => if x4 < (x102000.length : Int) then (walkmillref04_Order.l1 k x3 x4 0 0 x102000 x102001) else (some x3)
def walkmillref04_Order.l1 : Nat → List Int → Int → Int → Int → List (S67) → List Int → Option (List Int)
 | 0, _, _, _, _, _, _ => none
 | k + 1, x3, x4, x5, x6, x102000, x102001 => if x6 < (x102000.length : Int) then (if x6 = x4 then (walkmillref04_Order.j2 k x3 x4 x5 x6 false x102000 x102001) else ((walkmillref04_Before.f k x102000 x102001 x6 x4).bind fun t106 => (walkmillref04_Order.j2 k x3 x4 x5 x6 t106 x102000 x102001))) else (if 0 ≤ x5 then (if x5 < (x3.length : Int) then (walkmillref04_Order.l0 k (x3.set (x5 : Int).toNat x4) (wrap64 (x4 + 1)) x102000 x102001) else (none)) else (none))
def walkmillref04_Order.j2 : Nat → List Int → Int → Int → Int → Bool → List (S67) → List Int → Option (List Int)
 | 0, _, _, _, _, _, _, _ => none
 | k + 1, x3, x4, x5, x6, x33, x102000, x102001 => if x33 = true then (walkmillref04_Order.l1 k x3 x4 (wrap64 (x5 + 1)) (wrap64 (x6 + 1)) x102000 x102001) else (walkmillref04_Order.l1 k x3 x4 x5 (wrap64 (x6 + 1)) x102000 x102001)
end
def walkmillref04_Order.f (k : Nat) (l0_0 : List (S67)) (l0_1 : List Int) : Option (List Int) := if 0 ≤ (l0_0.length : Int) then (if ((l0_0.length : Int) : Int).toNat ≤ 35184372088832 then (walkmillref04_Order.l0 k (List.replicate ((l0_0.length : Int) : Int).toNat 0) 0 l0_0 l0_1) else (none)) else (none)
theorem walkmillref04_Order.mono_l : ∀ k, (∀ y0 y1 y2 y3, LeO (walkmillref04_Order.l0 k y0 y1 y2 y3) (walkmillref04_Order.l0 (k + 1) y0 y1 y2 y3)) ∧ (∀ y0 y1 y2 y3 y4 y5, LeO (walkmillref04_Order.l1 k y0 y1 y2 y3 y4 y5) (walkmillref04_Order.l1 (k + 1) y0 y1 y2 y3 y4 y5)) ∧ (∀ y0 y1 y2 y3 y4 y5 y6, LeO (walkmillref04_Order.j2 k y0 y1 y2 y3 y4 y5 y6) (walkmillref04_Order.j2 (k + 1) y0 y1 y2 y3 y4 y5 y6))
 | 0 => ⟨fun _ _ _ _ r h => by simp [walkmillref04_Order.l0] at h, fun _ _ _ _ _ _ r h => by simp [walkmillref04_Order.l1] at h, fun _ _ _ _ _ _ _ r h => by simp [walkmillref04_Order.j2] at h⟩
 | k + 1 => by
  obtain ⟨ih0, ih1, ih2⟩ := walkmillref04_Order.mono_l k
  refine ⟨?_, ?_, ?_⟩
  ·intro y0 y1 y2 y3
   unfold walkmillref04_Order.l0
   repeat' first
   | (with_reducible exact ih0 _ _ _ _)
   | (with_reducible exact ih1 _ _ _ _ _ _)
   | (with_reducible exact ih2 _ _ _ _ _ _ _)
   | (with_reducible exact walkmillref04_Before.mono _ _ _ _ _)
   | (with_reducible exact LeO.refl _)
   | (with_reducible exact LeO.none _)
   | (with_reducible refine LeO.ite ?_ ?_)
   | (with_reducible refine LeO.bind ?_ (fun _ => ?_))
   | exact ih0 _ _ _ _
   | exact ih1 _ _ _ _ _ _
   | exact ih2 _ _ _ _ _ _ _
   | exact walkmillref04_Before.mono _ _ _ _ _
   | exact LeO.none _
   | refine LeO.ite ?_ ?_
   | refine LeO.bind ?_ (fun _ => ?_)
  ·intro y0 y1 y2 y3 y4 y5
   unfold walkmillref04_Order.l1
   repeat' first
   | (with_reducible exact ih0 _ _ _ _)
   | (with_reducible exact ih1 _ _ _ _ _ _)
   | (with_reducible exact ih2 _ _ _ _ _ _ _)
   | (with_reducible exact walkmillref04_Before.mono _ _ _ _ _)
   | (with_reducible exact LeO.refl _)
   | (with_reducible exact LeO.none _)
   | (with_reducible refine LeO.ite ?_ ?_)
   | (with_reducible refine LeO.bind ?_ (fun _ => ?_))
   | exact ih0 _ _ _ _
   | exact ih1 _ _ _ _ _ _
   | exact ih2 _ _ _ _ _ _ _
   | exact walkmillref04_Before.mono _ _ _ _ _
   | exact LeO.none _
   | refine LeO.ite ?_ ?_
   | refine LeO.bind ?_ (fun _ => ?_)
  ·intro y0 y1 y2 y3 y4 y5 y6
   unfold walkmillref04_Order.j2
   repeat' first
   | (with_reducible exact ih0 _ _ _ _)
   | (with_reducible exact ih1 _ _ _ _ _ _)
   | (with_reducible exact ih2 _ _ _ _ _ _ _)
   | (with_reducible exact walkmillref04_Before.mono _ _ _ _ _)
   | (with_reducible exact LeO.refl _)
   | (with_reducible exact LeO.none _)
   | (with_reducible refine LeO.ite ?_ ?_)
   | (with_reducible refine LeO.bind ?_ (fun _ => ?_))
   | exact ih0 _ _ _ _
   | exact ih1 _ _ _ _ _ _
   | exact ih2 _ _ _ _ _ _ _
   | exact walkmillref04_Before.mono _ _ _ _ _
   | exact LeO.none _
   | refine LeO.ite ?_ ?_
   | refine LeO.bind ?_ (fun _ => ?_)
theorem walkmillref04_Order.mono : ∀ a0 a1 k, LeO (walkmillref04_Order.f k a0 a1) (walkmillref04_Order.f (k + 1) a0 a1) := by
 intro a0 a1 k
 obtain ⟨ih0, ih1, ih2⟩ := walkmillref04_Order.mono_l k
 unfold walkmillref04_Order.f
 repeat' first
   | (with_reducible exact ih0 _ _ _ _)
   | (with_reducible exact ih1 _ _ _ _ _ _)
   | (with_reducible exact ih2 _ _ _ _ _ _ _)
   | (with_reducible exact walkmillref04_Before.mono _ _ _ _ _)
   | (with_reducible exact LeO.refl _)
   | (with_reducible exact LeO.none _)
   | (with_reducible refine LeO.ite ?_ ?_)
   | (with_reducible refine LeO.bind ?_ (fun _ => ?_))
   | exact ih0 _ _ _ _
   | exact ih1 _ _ _ _ _ _
   | exact ih2 _ _ _ _ _ _ _
   | exact walkmillref04_Before.mono _ _ _ _ _
   | exact LeO.none _
   | refine LeO.ite ?_ ?_
   | refine LeO.bind ?_ (fun _ => ?_)
set_option maxHeartbeats 8000000 in
set_option maxRecDepth 100000 in
theorem walkmillref04_Order.calls (k : Nat) (A0_0 : Option Addr) (c0_0 : Nat) (l0_0 : List (S67)) (A0_1 : Option Addr) (c0_1 : Nat) (l0_1 : List Int) (r : List Int) (w : World) (hr0_0 : Kd.C k67 w A0_0 l0_0.length l0_0) (hc0_0 : l0_0.length ≤ c0_0) (hr0_1 : Kd.C (Kd.int .i64) w A0_1 l0_1.length l0_1) (hc0_1 : l0_1.length ≤ c0_1) (h : walkmillref04_Order.f k l0_0 l0_1 = some r) :
  Calls Tryz.prog 24 #[.agg #[.slice A0_0 l0_0.length c0_0, .slice A0_1 l0_1.length c0_1]] w fun e w' => ∃ v0_ : Value, e = .returned (v0_) ∧ Kd.R (Kd.int .i64) 3 w' w.heap.size (fun _ => True) v0_ r ∧ Below w.heap.size w w' := by
 have hu25 := Tryz.underlying25
 have HR0_0 := Aside0.mk hr0_0
 have HC0_0 := Aside0.mk hc0_0
 clear hr0_0 hc0_0
 have HR0_1 := Aside0.mk hr0_1
 have HC0_1 := Aside0.mk hc0_1
 clear hr0_1 hc0_1
 have HB := Aside0.mk (Below.refl w.heap.size w)
 have H : (if 0 ≤ (l0_0.length : Int) then (if ((l0_0.length : Int) : Int).toNat ≤ 35184372088832 then (walkmillref04_Order.l0 k (List.replicate ((l0_0.length : Int) : Int).toNat 0) 0 l0_0 l0_1) else (none)) else (none)) = some r := h
 clear h
 by_cases c2 : 0 ≤ (l0_0.length : Int)
 ·rw [if_pos c2] at H
  have c2b0 := eq_true c2
  have c2b1 : decide (0 ≤ (l0_0.length : Int)) = true := decide_eq_true c2
  clear c2
  by_cases c3 : ((l0_0.length : Int) : Int).toNat ≤ 35184372088832
  ·rw [if_pos c3] at H
   have c3b0 := eq_true c3
   have c3b1 : decide (((l0_0.length : Int) : Int).toNat ≤ 35184372088832) = true := decide_eq_true c3
   clear c3
   obtain ⟨y102, hy102⟩ : ∃ y_ : List Int, y_ = (List.replicate ((l0_0.length : Int) : Int).toNat 0) := ⟨_, rfl⟩
   replace H : (walkmillref04_Order.l0 k y102 0 l0_0 l0_1) = some r := yy hy102 H
   have Ny102 := Aside0.mk hy102
   clear hy102
   have H' := Aside0.mk H
   clear H
   go_enter Tryz.func24, Tryz.ntmps24
   go_wp2_with (first | ((with_reducible refine gate_dst (N := 1) rfl ?_); refine bx 1 #[.slice A0_0 l0_0.length c0_0, .slice A0_1 l0_1.length c0_1] 25 ?_; intro gb101 hg w4 hbox hb; have BK101 := hbox; have GW101 := gs HB hg; have GE101 := gs HB hg; replace HB := bs HB hb; clear hb hbox hg; obtain ⟨hcz5_0, hcz5_1, hfz5_0, hfz5_1⟩ := cf2 BK101) | ((with_reducible refine gate_dst (N := 10) rfl ?_); refine Kd.R_make (Kd.int .i64) _ 3 rfl (N := 10) rfl 23 _ _ rfl (l0_0.length : Int) rfl rfl Tryz.underlying23 (.int .i64 0) 8 info3 rfl (by decide) (by omega) 0 (ok := fun _ => True) (okp := fun _ => True) rfl (fun _ hk => hk) trivial (dT) (Nat.le_trans (Nat.mul_le_mul_right _ (dT : (l0_0.length : Int).toNat ≤ 35184372088832)) (by omega)) (Below.refl _ _) (Nat.le_refl _) ?_; intro v103 w6 ho7 hb hg_ hnew_; clear hg_ hnew_; (first | rw [← Ny102.out] at ho7 | (simp only [Int.reduceToNat] at ho7; rw [← Ny102.out] at ho7)); have HO104 := rl ho7 HB; replace BK101 := bb BK101 hb; replace HB := bs HB hb; clear hb ho7))
   go_loopg [4] k (fun kq v4 w' => ∃ (x3_1 : List Int) (x4_1 : Int), v4 = .int .i64 x4_1 ∧ Aside0 (walkmillref04_Order.l0 kq x3_1 x4_1 l0_0 l0_1 = some r) ∧ Aside0 (kq ≤ k) ∧ Aside0 (Kd.R (Kd.int .i64) 3 w' w.heap.size (fun _ => True) v103 x3_1) ∧ Aside0 (w'.heap[gb101]? = some (.cells #[(.slice A0_0 l0_0.length c0_0), (.slice A0_1 l0_1.length c0_1)] 25 (0, 0))) ∧ Aside0 (Below w.heap.size w w'))
   case atStart => exact ⟨(y102), (0), (by first | rfl | (simp; done) | (simp [*]; done)), H', ⟨Nat.le_refl _⟩, ⟨by (with_reducible repeat (first | apply Kd.R_alloc | apply Kd.R_drewN | apply Kd.R_drew)); exact HO104.out⟩, ⟨by (with_reducible repeat (first | refine blk_drewN ?_ _ | refine blk_drew ?_ | refine blk_alloc ?_ _)); exact BK101.out⟩, ⟨pE HB⟩⟩
   case round =>
    clear H'
    try clear c2
    try clear c2b0
    try clear c2b1
    try clear p2
    try clear c3
    try clear c3b0
    try clear c3b1
    try clear hcz5_0
    try clear hcz5_1
    try clear hfz5_0
    try clear hfz5_1
    obtain ⟨x3_1, x4_1, rfl, HA, HK1, HO_3, BK101, HB⟩ := hrel
    cases gk with
    | zero => exact absurd HA.out (by simp [walkmillref04_Order.l0])
    | succ k1 =>
     have H := HA.out
     clear HA
     simp only [walkmillref04_Order.l0] at H
     by_cases c8 : x4_1 < (l0_0.length : Int)
     ·rw [if_pos c8] at H
      have c8b0 : decide (x4_1 < (l0_0.length : Int)) = true := decide_eq_true c8
      clear c8
      have H' := Aside0.mk H
      clear H
      obtain ⟨hcz9_0, hcz9_1, hfz9_0, hfz9_1⟩ := cf2 BK101
      go_wp2
      go_loopg [5, 6] k1 (fun kq v5 v6 w' => ∃ (x5_2 : Int) (x6_2 : Int), v5 = .int .i64 x5_2 ∧ v6 = .int .i64 x6_2 ∧ Aside0 (walkmillref04_Order.l1 kq x3_1 x4_1 x5_2 x6_2 l0_0 l0_1 = some r) ∧ Aside0 (kq ≤ k1) ∧ Aside0 (Kd.R (Kd.int .i64) 3 w' w.heap.size (fun _ => True) v103 x3_1) ∧ Aside0 (w'.heap[gb101]? = some (.cells #[(.slice A0_0 l0_0.length c0_0), (.slice A0_1 l0_1.length c0_1)] 25 (0, 0))) ∧ Aside0 (Below w.heap.size w w'))
      case atStart => exact ⟨(0), (0), (by first | rfl | (simp; done) | (simp [*]; done)), (by first | rfl | (simp; done) | (simp [*]; done)), H', ⟨Nat.le_refl _⟩, ⟨by (with_reducible repeat (first | apply Kd.R_alloc | apply Kd.R_drewN | apply Kd.R_drew)); exact HO_3.out⟩, ⟨by (with_reducible repeat (first | refine blk_drewN ?_ _ | refine blk_drew ?_ | refine blk_alloc ?_ _)); exact BK101.out⟩, ⟨pE HB⟩⟩
      case round =>
       clear H'
       try clear c2
       try clear c2b0
       try clear c2b1
       try clear p2
       try clear c3
       try clear c3b0
       try clear c3b1
       try clear c8
       try clear c8b0
       try clear hcz5_0
       try clear hcz5_1
       try clear hcz9_0
       try clear hcz9_1
       try clear hfz5_0
       try clear hfz5_1
       try clear hfz9_0
       try clear hfz9_1
       try clear p2
       obtain ⟨x5_2, x6_2, rfl, rfl, HA, HK2, HO_3, BK101, HB⟩ := hrel
       cases gk with
       | zero => exact absurd HA.out (by simp [walkmillref04_Order.l1])
       | succ k2 =>
        have H := HA.out
        clear HA
        simp only [walkmillref04_Order.l1] at H
        by_cases c10 : x6_2 < (l0_0.length : Int)
        ·rw [if_pos c10] at H
         have c10b0 : decide (x6_2 < (l0_0.length : Int)) = true := decide_eq_true c10
         clear c10
         have HC11 := Aside0.mk H
         clear H
         obtain ⟨hcz12_0, hcz12_1, hfz12_0, hfz12_1⟩ := cf2 BK101
         go_upto_region 9 with (fail)
         go_cut [33] (fun v33 wc => ∃ (kq : Nat) (x33_10 : Bool), v33 = .bool x33_10 ∧ Aside0 (walkmillref04_Order.j2 kq x3_1 x4_1 x5_2 x6_2 x33_10 l0_0 l0_1 = some r) ∧ Aside0 (kq ≤ k2) ∧ Aside0 (Kd.R (Kd.int .i64) 3 wc w.heap.size (fun _ => True) v103 x3_1) ∧ Aside0 (wc.heap[gb101]? = some (.cells #[(.slice A0_0 l0_0.length c0_0), (.slice A0_1 l0_1.length c0_1)] 25 (0, 0))) ∧ Aside0 (Below w.heap.size w wc))
         case first =>
          have H := HC11.out
          clear HC11
          by_cases c13 : x6_2 = x4_1
          ·rw [if_pos c13] at H
           have c13b0 : (x6_2 == x4_1) = true := beq_iff_eq.mpr c13
           have c13b1 : (x6_2 != x4_1) = false := bne_eq_false_iff_eq.mpr c13
           clear c13
           (first | rw [c13b0] | (simp only [i64_w, i32_w]; rw [c13b0]) | skip)
           have H' := Aside0.mk H
           clear H
           go_wp2
           go_meet
           case rel => exact ⟨_, (false), (by first | rfl | (simp; done) | (simp [*]; done)), H', ⟨by have := HK1.out; have := HK2.out; first | omega | exact Nat.le_refl _⟩, ⟨by (with_reducible repeat (first | apply Kd.R_alloc | apply Kd.R_drewN | apply Kd.R_drew)); exact HO_3.out⟩, ⟨by (with_reducible repeat (first | refine blk_drewN ?_ _ | refine blk_drew ?_ | refine blk_alloc ?_ _)); exact BK101.out⟩, ⟨pE HB⟩⟩
          ·rw [if_neg c13] at H
           have c13b0 : (x6_2 == x4_1) = false := beq_eq_false_iff_ne.mpr c13
           have c13b1 : (x6_2 != x4_1) = true := bne_iff_ne.mpr c13
           (first | rw [c13b0] | (simp only [i64_w, i32_w]; rw [c13b0]) | skip)
           obtain ⟨t106, A14, H⟩ := bi H
           have H' := Aside0.mk H
           clear H
           obtain ⟨hcz15_0, hcz15_1, hfz15_0, hfz15_1⟩ := cf2 BK101
           go_wp2_with (first | (go_at_call 64; (with_reducible refine (walkmillref04_Before.calls k2 _ _ l0_0 _ _ l0_1 x6_2 x4_1 t106 _ ?side1 ?side2 ?side3 ?side4 A14.out).mono ?_); (case side1 => exact pC (Kd.C_below HR0_0.out HB.out)); (case side2 => exact HC0_0.out); (case side3 => exact pC (Kd.C_below HR0_1.out HB.out)); (case side4 => exact HC0_1.out); rintro e w16 ⟨rfl, hb⟩; replace HO_3 := rb HO_3 hb; replace BK101 := bb BK101 hb; replace HB := bs HB hb; (try clear hb); (try clear hb2); (try clear hk); (try clear hi)))
           go_meet
           case rel => exact ⟨_, (t106), (by first | rfl | (simp; done) | (simp [*]; done)), H', ⟨by have := HK1.out; have := HK2.out; first | omega | exact Nat.le_refl _⟩, ⟨by (with_reducible repeat (first | apply Kd.R_alloc | apply Kd.R_drewN | apply Kd.R_drew)); exact HO_3.out⟩, ⟨by (with_reducible repeat (first | refine blk_drewN ?_ _ | refine blk_drew ?_ | refine blk_alloc ?_ _)); exact BK101.out⟩, ⟨pE HB⟩⟩
         case rest =>
          clear HC11
          try clear c1
          try clear c2
          try clear c2b0
          try clear c2b1
          try clear p2
          try clear c3
          try clear c3b0
          try clear c3b1
          try clear c8
          try clear c8b0
          try clear c10
          try clear c10b0
          try clear c13
          try clear c13b0
          try clear c13b1
          try clear hcz12_0
          try clear hcz12_1
          try clear hcz15_0
          try clear hcz15_1
          try clear hcz5_0
          try clear hcz5_1
          try clear hcz9_0
          try clear hcz9_1
          try clear hfz12_0
          try clear hfz12_1
          try clear hfz15_0
          try clear hfz15_1
          try clear hfz5_0
          try clear hfz5_1
          try clear hfz9_0
          try clear hfz9_1
          try clear p2
          obtain ⟨kq, x33_10, rfl, HA, HJ10, HO_3, BK101, HB⟩ := hcut
          cases kq with
          | zero => exact absurd HA.out (by simp [walkmillref04_Order.j2])
          | succ kj10 =>
           have H := HA.out
           clear HA
           simp only [walkmillref04_Order.j2] at H
           by_cases c17 : x33_10 = true
           ·subst c17
            rw [if_pos rfl] at H
            have H' := Aside0.mk H
            clear H
            go_wp2
            go_roundg kj10
            case measure => have := HK1.out; have := HK2.out; have := HJ10.out; omega
            case rel => exact ⟨(wrap64 (x5_2 + 1)), (wrap64 (x6_2 + 1)), (by first | rfl | (simp; done) | (simp [*]; done)), (by first | rfl | (simp; done) | (simp [*]; done)), H', ⟨by have := HK1.out; have := HK2.out; have := HJ10.out; omega⟩, ⟨by (with_reducible repeat (first | apply Kd.R_alloc | apply Kd.R_drewN | apply Kd.R_drew)); exact HO_3.out⟩, ⟨by (with_reducible repeat (first | refine blk_drewN ?_ _ | refine blk_drew ?_ | refine blk_alloc ?_ _)); exact BK101.out⟩, ⟨pE HB⟩⟩
           ·replace c17 := Bool.eq_false_iff.mpr c17
            subst c17
            rw [if_neg (show ¬ (false = true) by decide)] at H
            have H' := Aside0.mk H
            clear H
            go_wp2
            go_roundg kj10
            case measure => have := HK1.out; have := HK2.out; have := HJ10.out; omega
            case rel => exact ⟨(x5_2), (wrap64 (x6_2 + 1)), (by first | rfl | (simp; done) | (simp [*]; done)), (by first | rfl | (simp; done) | (simp [*]; done)), H', ⟨by have := HK1.out; have := HK2.out; have := HJ10.out; omega⟩, ⟨by (with_reducible repeat (first | apply Kd.R_alloc | apply Kd.R_drewN | apply Kd.R_drew)); exact HO_3.out⟩, ⟨by (with_reducible repeat (first | refine blk_drewN ?_ _ | refine blk_drew ?_ | refine blk_alloc ?_ _)); exact BK101.out⟩, ⟨pE HB⟩⟩
        ·rw [if_neg c10] at H
         have c10b0 : decide (x6_2 < (l0_0.length : Int)) = false := decide_eq_false c10
         clear c10
         by_cases c18 : 0 ≤ x5_2
         ·rw [if_pos c18] at H
          have c18b0 : decide (0 ≤ x5_2) = true := decide_eq_true c18
          clear c18
          by_cases c19 : x5_2 < (x3_1.length : Int)
          ·rw [if_pos c19] at H
           have c19b0 : decide (x5_2 < (x3_1.length : Int)) = true := decide_eq_true c19
           clear c19
           obtain ⟨y105, hy105⟩ : ∃ y_ : List Int, y_ = (x3_1.set (x5_2 : Int).toNat x4_1) := ⟨_, rfl⟩
           replace H : (walkmillref04_Order.l0 k2 y105 (wrap64 (x4_1 + 1)) l0_0 l0_1) = some r := yy hy105 H
           have Ny105 := Aside0.mk hy105
           clear hy105
           have H' := Aside0.mk H
           clear H
           obtain ⟨_, _, _, _⟩ := cf2 BK101
           have p20 : 0 ≤ (x5_2 : Int) := dT
           have q20 : (x5_2 : Int) < ((x3_1.length : Int) : Int) := dT
           obtain ⟨go20, co20, eo20, gb20, gl20, cl20, HG20⟩ := Kd.R_form HO_3.out (by omega)
           (first | cases eo20 | (injection eo20 with ea_ en_ ec_; (first | subst ea_ | (injection ea_ with ea_; subst ea_)); subst ec_; clear en_))
           have GB20 := Aside0.mk gb20
           have GG20 := Aside0.mk HG20
           clear gb20 gl20 HG20
           obtain ⟨hx20_0, hf20_0⟩ := Kd.R_celln 0 HO_3.out (x5_2 : Int) p20 q20
           replace p20 := eq_true p20
           replace q20 := eq_true q20
           have HP22 := Kd.R_putg HO_3.out (x5_2 : Int) x4_1
           go_wp2_with (first | ((with_reducible refine gate_store (t := 3) (p := 39) rfl ?_); refine store_event (t := 3) (p := 39) (v := ?vo_w23) (w1 := (wr.setCell ⟨go20, (x5_2 : Int).toNat, none⟩ (.int .i64 x4_1))) ?hg ?ho ?hn ?hr ?_; (case ho => rfl); (case hg => rfl); (case hn => rfl); (case hr => first | (go_simp; done) | (go_simp; rfl)); intro w23 hw; have hg : wr.grownBy w23 (some go20) := (by rw [hw]; exact HP22.2); have hp_ : Kd.R (Kd.int .i64) 3 w23 w.heap.size (fun _ => True) (.slice (some ⟨go20, 0, none⟩) x3_1.length co20) y105 := (by rw [hw, Ny105.out]; exact HP22.1); clear HP22; replace BK101 := Aside0.mk (blk_grown (g := gb101) (o := .cells #[.slice A0_0 l0_0.length c0_0, .slice A0_1 l0_1.length c0_1] 25 (0, 0)) (pB BK101.out) hg (Kd.R_ne HO_3.out BK101.out (by decide))); replace HO_3 := Aside0.mk (hp_); replace HB := Aside0.mk ((by rw [hw]; exact below_set (HB.out) GB20.out : Below w.heap.size w w23)); clear hg hw hp_))
           go_roundg k2
           case measure => have := HK1.out; have := HK2.out; omega
           case rel => exact ⟨(y105), (wrap64 (x4_1 + 1)), (by first | rfl | (simp; done) | (simp [*]; done)), H', ⟨by have := HK1.out; have := HK2.out; omega⟩, ⟨by (with_reducible repeat (first | apply Kd.R_alloc | apply Kd.R_drewN | apply Kd.R_drew)); exact HO_3.out⟩, ⟨by (with_reducible repeat (first | refine blk_drewN ?_ _ | refine blk_drew ?_ | refine blk_alloc ?_ _)); exact BK101.out⟩, ⟨pE HB⟩⟩
          ·rw [if_neg c19] at H
           exact absurd H (by simp)
         ·rw [if_neg c18] at H
          exact absurd H (by simp)
     ·rw [if_neg c8] at H
      have c8b0 : decide (x4_1 < (l0_0.length : Int)) = false := decide_eq_false c8
      clear c8
      obtain rfl := Option.some.inj H
      obtain ⟨_, _, _, _⟩ := cf2 BK101
      go_wp2
      go_ret
      exact ⟨_, eT, by (with_reducible repeat (first | apply Kd.R_alloc | apply Kd.R_drewN | apply Kd.R_drew)); exact HO_3.out, pE HB⟩
  ·rw [if_neg c3] at H
   exact absurd H (by simp)
 ·rw [if_neg c2] at H
  exact absurd H (by simp)
end Go.Proofs.YtlmglnobdcgbeaaGreat.P
namespace Go.Proofs.YtlmglnobdcgbeaaGreat.P
open Go.RowKit Go.Proofs.YtlmglnobdcgbeaaGreatW.PrintWords Go.Proofs.YtlmglnobdcgbeaaGreatW.PrintLast Go.Proofs.YtlmglnobdcgbeaaGreatW.PrintMore
theorem len_some (k : Nat) (a : Int) : ∃ L, bits_Len.f (k + 2) a = some L := by
  have m0 : ∀ y : Int, 0 ≤ y % 256 := fun y => by omega
  have m1 : ∀ y : Int, y % 256 < 256 := fun y => by omega
  have j1 : ∀ x n : Int, ∃ L, bits_Len64.j1 (k + 1) x n = some L := by
    intro x n
    rw [bits_Len64.j1]
    split <;> (rw [if_pos (m0 _), if_pos (m1 _)]; exact ⟨_, rfl⟩)
  have j : ∀ x n : Int, ∃ L, bits_Len64.j0 (k + 2) x n = some L := by
    intro x n
    rw [bits_Len64.j0]
    split <;> exact j1 _ _
  unfold bits_Len.f bits_Len64.f
  split
  · obtain ⟨L, e⟩ := j (a / 4294967296) 32
    exact ⟨L, by rw [e]; rfl⟩
  · obtain ⟨L, e⟩ := j a 0
    exact ⟨L, by rw [e]; rfl⟩
def ordA (cl : List S67) (rk : List Int) : List Int := (rng cl.length).mergeSort fun a b => decide (key cl rk a ≤ key cl rk b)
theorem ordA_perm (cl : List S67) (rk : List Int) : (ordA cl rk).Perm (rng cl.length) := List.mergeSort_perm _ _
theorem ordA_byKey (cl : List S67) (rk : List Int) : byKey (key cl rk) (ordA cl rk) := by
  have := List.pairwise_mergeSort (le := fun a b : Int => decide (key cl rk a ≤ key cl rk b)) (fun a b c h1 h2 => by simp at *; omega) (fun a b => by simp; omega) (rng cl.length)
  exact this.imp (fun h => by simpa using h)
theorem ordA_uniq (cl : List S67) (rk : List Int) (hc : cl.length ≤ 100) (ys : List Int) (hp : ys.Perm (rng cl.length)) (hs : byKey (key cl rk) ys) : ys = ordA cl rk :=
  sorted_key (g := key cl rk) ys _ (hp.trans (ordA_perm cl rk).symm) hs (ordA_byKey cl rk) (fun a ha b hb h => key_inj cl rk hc a b (mem_rng.1 (hp.mem_iff.1 ha)) (mem_rng.1 (hp.mem_iff.1 hb)) h)
theorem sort_ok {cl : List S67} {rk : List Int} (v : Valid cl rk) (k : Nat) (hkk : 1000 < k) :
    slices_SortFunc_int_int_at_turn_day_before_bound.f k (rng cl.length) cl rk = some (ordA cl rk) := by
  have h10 := v.c10
  have hb : Less cl rk := fun a b ha hb k hk => before_eq v a b ha hb k hk
  obtain ⟨k, rfl⟩ : ∃ m, k = m + 2 := ⟨k - 2, by omega⟩
  obtain ⟨L, eL⟩ := len_some k (IntKind.u64.wrap ((rng cl.length).length : Int))
  have hr : inN cl.length (rng cl.length) := fun x hx => mem_rng.1 hx
  have hlen : (rng cl.length).length = cl.length := rng_length _
  generalize hl : rng cl.length = l at *
  have key_ : ∃ ys, slices_insertionSortCmpFunc_int_at_turn_day_before_bound.f (k + 1) l 0 (l.length : Int) cl rk = some ys ∧ ys.Perm l ∧ byKey (key cl rk) ys := by
    unfold slices_insertionSortCmpFunc_int_at_turn_day_before_bound.f
    rw [show wrap64 (0 + 1) = 1 by rw [w64_of (by omega) (by omega)]; rfl]
    cases l with
    | nil =>
      exact ⟨[], by rw [slices_insertionSortCmpFunc_int_at_turn_day_before_bound.l0, if_neg (by simp)], List.Perm.refl _, List.Pairwise.nil⟩
    | cons v r =>
      have := ins_l0 cl rk hb r.length [v] r (k + 1) rfl (by simp at hlen; omega) (by simp at hlen ⊢; omega) hr (List.pairwise_singleton _ _)
      simpa [Nat.add_comm] using this
  obtain ⟨ys, y1, y2, y3⟩ := key_
  unfold slices_SortFunc_int_int_at_turn_day_before_bound.f slices_pdqsortCmpFunc_int_at_turn_day_before_bound.f
  rw [eL, Option.bind_some, slices_pdqsortCmpFunc_int_at_turn_day_before_bound.l0, w64_of (n := (l.length : Int) - 0) (by omega) (by omega), if_pos (by omega), y1]
  exact congrArg some (ordA_uniq cl rk (by omega) ys (by rw [hl]; exact y2) y3)
theorem tOrder_l {cl : List S67} {rk : List Int} (v : Valid cl rk) : ∀ (d i k : Nat), i + d = cl.length → d + 1100 < k → turn_day_order.l0 k (rng i) (cl.length : Int) i cl rk = some (ordA cl rk)
  | 0, i, k, hd, hk => by
    obtain ⟨k, rfl⟩ : ∃ m, k = m + 1 := ⟨k - 1, by omega⟩
    rw [turn_day_order.l0, if_neg (by omega), show i = cl.length by omega, sort_ok v k (by omega)]; rfl
  | d + 1, i, k, hd, hk => by
    obtain ⟨k, rfl⟩ : ∃ m, k = m + 1 := ⟨k - 1, by omega⟩
    have h10 := v.c10
    rw [turn_day_order.l0, if_pos (by omega), if_pos (by rw [rng_length]; omega), nx i (by omega), ← rng_succ]
    exact tOrder_l v d (i + 1) k (by omega) (by omega)
theorem dayOrder_eq {cl : List S67} {rk : List Int} (v : Valid cl rk) (k : Nat) (hk : 1200 < k) : turn_day_order.f k cl rk = some (ordA cl rk) := by
  have h10 := v.c10
  exact tOrder_l v cl.length 0 k (by omega) (by omega)
theorem open_eq (cl : List S67) (rk : List Int) (hr : rk.length ≤ 1000) (s l : Int) (k : Nat) (hk : 0 < k) : turn_open.f k cl rk s l = some (cl, rk, if chk cl rk = 0 then (if (isIn 1 5 s && isIn 0 500 l) = true then 0 else 3) else chk cl rk) := by
  obtain ⟨k, rfl⟩ : ∃ m, k = m + 1 := ⟨k - 1, by omega⟩
  unfold turn_open.f
  rw [tCheck_eq cl rk hr (k + 1) (by omega), within_eq, within_eq]
  simp only [Option.bind_some, List.all_cons, List.all_nil, Bool.and_true]
  have hj : ∀ (e : Int) (b : Bool), turn_open.j0 (k + 1) e b cl rk = some (cl, rk, if b = true then 3 else e) := fun e b => by
    rw [turn_open.j0]; cases b <;> simp
  rw [hj, hj, hj]
  by_cases h : chk cl rk = 0
  · simp only [h, if_true]; cases isIn 1 5 s <;> cases isIn 0 500 l <;> simp
  · simp only [h, if_false]; simp
def cntA (cl : List S67) (rk : List Int) (a : Int) : Nat := (rng cl.length).countP fun b => decide (key cl rk b < key cl rk a)
theorem rng_drop (n i : Nat) (h : i < n) : (rng n).drop i = (i : Int) :: (rng n).drop (i + 1) := by
  have hl : i < (rng n).length := by rw [rng_length]; exact h
  rw [List.drop_eq_getElem_cons hl, rng_getElem]
theorem rOrder_l1 {cl : List S67} {rk : List Int} (v : Valid cl rk) (out : List Int) (a : Nat) (ha : a < cl.length) (R : List Int) (m : Nat) (hn : ∀ k, m < k → walkmillref04_Order.l1 k out a (cntA cl rk a) cl.length cl rk = some R) :
    ∀ (d b k c : Nat), b + d = cl.length → 2 * d + m + 40 < k → c ≤ b → c + ((rng cl.length).drop b).countP (fun b => decide (key cl rk b < key cl rk a)) = cntA cl rk a → walkmillref04_Order.l1 k out a c b cl rk = some R
  | 0, b, k, c, hd, hk, hcb, hc => by
    rw [List.drop_of_length_le (by rw [rng_length]; omega), List.countP_nil] at hc
    rw [show c = cntA cl rk a by omega, show b = cl.length by omega]
    exact hn k (by omega)
  | d + 1, b, k, c, hd, hk, hcb, hc => by
    obtain ⟨k, rfl⟩ : ∃ m, k = m + 1 := ⟨k - 1, by omega⟩
    have h10 := v.c10
    rw [rng_drop _ _ (show b < cl.length by omega), List.countP_cons] at hc
    have hj : ∀ q : Bool, (q = decide (key cl rk b < key cl rk a)) → walkmillref04_Order.j2 k out a c b q cl rk = some R := fun q hq => by
      obtain ⟨k, rfl⟩ : ∃ m, k = m + 1 := ⟨k - 1, by omega⟩
      rw [walkmillref04_Order.j2, nx b (by omega), nx c (by omega)]
      cases q
      · rw [if_neg (by simp)]
        rw [← hq] at hc
        exact rOrder_l1 v out a ha R m hn d (b + 1) k c (by omega) (by omega) (by omega) (by simpa using hc)
      · rw [if_pos rfl]
        rw [← hq] at hc
        exact rOrder_l1 v out a ha R m hn d (b + 1) k (c + 1) (by omega) (by omega) (by omega) (by simp at hc; omega)
    rw [walkmillref04_Order.l1, if_pos (by omega)]
    by_cases e : (b : Int) = a
    · rw [if_pos e]
      refine hj false ?_
      rw [e, decide_eq_false (by omega)]
    · rw [if_neg e, rBefore_eq v b a (by omega) (by omega) (by omega) k (by omega), Option.bind_some]
      exact hj _ rfl
theorem cnt_at {cl : List S67} {rk : List Int} (hc : cl.length ≤ 100) (p : Nat) (hp : p < (ordA cl rk).length) : cntA cl rk (ordA cl rk)[p] = p := by
  unfold cntA
  rw [← (ordA_perm cl rk).countP_eq]
  have hs := ordA_byKey cl rk
  have hin : ∀ x ∈ ordA cl rk, 0 ≤ x ∧ x < cl.length := fun x hx => mem_rng.1 ((ordA_perm cl rk).mem_iff.1 hx)
  have hnd : (ordA cl rk).Nodup := (ordA_perm cl rk).nodup_iff.2 (rng_nodup _)
  generalize ordA cl rk = L at *
  obtain ⟨x, hx⟩ : ∃ x, L[p] = x := ⟨_, rfl⟩
  have hsplit : L = L.take p ++ x :: L.drop (p + 1) := by rw [← hx, ← List.drop_eq_getElem_cons hp, List.take_append_drop]
  rw [hx]
  rw [hsplit] at hs hnd
  obtain ⟨_, s2, s3⟩ := List.pairwise_append.1 hs
  obtain ⟨s4, _⟩ := List.pairwise_cons.1 s2
  obtain ⟨_, n2, n3⟩ := List.pairwise_append.1 (List.nodup_iff_pairwise_ne.1 hnd)
  rw [hsplit, List.countP_append, List.countP_cons]
  have hxi : 0 ≤ x ∧ x < cl.length := hin x (by rw [← hx]; exact List.getElem_mem _)
  have c1 : (L.take p).countP (fun b => decide (key cl rk b < key cl rk x)) = p := by
    have : (L.take p).countP (fun b => decide (key cl rk b < key cl rk x)) = (L.take p).length := List.countP_eq_length.2 (fun y hy => by
      have h1 := s3 y hy x (by simp)
      have h2 := n3 y hy x (by simp)
      have h3 : key cl rk y ≠ key cl rk x := fun e => h2 (key_inj cl rk hc y x (hin y (List.mem_of_mem_take hy)) hxi e)
      exact decide_eq_true (by omega))
    rw [this, List.length_take]; omega
  have c2 : (L.drop (p + 1)).countP (fun b => decide (key cl rk b < key cl rk x)) = 0 := List.countP_eq_zero.2 (fun y hy => by
    have h1 := s4 y hy
    simp; omega)
  rw [c1, c2]; simp
theorem rOrder_l0 {cl : List S67} {rk : List Int} (v : Valid cl rk) : ∀ (d a k : Nat) (out : List Int), a + d = cl.length → 100 * d + 10 < k → out.length = cl.length → (∀ p (hp : p < (ordA cl rk).length), (ordA cl rk)[p] < (a : Int) → out[p]? = some (ordA cl rk)[p]) →
    walkmillref04_Order.l0 k out a cl rk = some (ordA cl rk)
  | 0, a, k, out, hd, hk, hl, ho => by
    obtain ⟨k, rfl⟩ : ∃ m, k = m + 1 := ⟨k - 1, by omega⟩
    rw [walkmillref04_Order.l0, if_neg (by omega)]
    congr 1
    have hL : (ordA cl rk).length = cl.length := by rw [(ordA_perm cl rk).length_eq, rng_length]
    refine List.ext_getElem? fun p => ?_
    rcases Nat.lt_or_ge p cl.length with hp | hp
    · have hp' : p < (ordA cl rk).length := by omega
      have hm := mem_rng.1 ((ordA_perm cl rk).mem_iff.1 (List.getElem_mem hp'))
      rw [ho p hp' (by omega), List.getElem?_eq_getElem hp']
    · rw [List.getElem?_eq_none (by omega), List.getElem?_eq_none (by omega)]
  | d + 1, a, k, out, hd, hk, hl, ho => by
    obtain ⟨k, rfl⟩ : ∃ m, k = m + 1 := ⟨k - 1, by omega⟩
    have h10 := v.c10
    have hL : (ordA cl rk).length = cl.length := by rw [(ordA_perm cl rk).length_eq, rng_length]
    obtain ⟨p, hp, hpa⟩ : ∃ (p : Nat) (hp : p < (ordA cl rk).length), (ordA cl rk)[p] = (a : Int) := List.getElem_of_mem ((ordA_perm cl rk).mem_iff.2 (mem_rng.2 (by omega)))
    have hcp : cntA cl rk a = p := by rw [← hpa]; exact cnt_at (by omega) p hp
    rw [walkmillref04_Order.l0, if_pos (by omega)]
    refine rOrder_l1 v out a (by omega) (ordA cl rk) (100 * d + 11) (fun k hk => ?_) cl.length 0 k 0 (by omega) (by omega) (by omega) (by rw [List.drop_zero, Nat.zero_add]; rfl)
    obtain ⟨k, rfl⟩ : ∃ m, k = m + 1 := ⟨k - 1, by omega⟩
    rw [walkmillref04_Order.l1, if_neg (by omega), hcp, if_pos (by omega), if_pos (by omega), nx a (by omega), Int.toNat_natCast]
    refine rOrder_l0 v d (a + 1) k _ (by omega) (by omega) (by rw [List.length_set]; exact hl) fun q hq hlt => ?_
    by_cases e : q = p
    · subst e; rw [List.getElem?_set_self (by omega), hpa]
    · rw [List.getElem?_set_ne (by omega)]
      have hnd : (ordA cl rk).Nodup := (ordA_perm cl rk).nodup_iff.2 (rng_nodup _)
      have : (ordA cl rk)[q] ≠ (a : Int) := fun e2 => by
        rw [← hpa] at e2
        rw [List.nodup_iff_pairwise_ne, List.pairwise_iff_getElem] at hnd
        rcases Nat.lt_or_gt_of_ne e with h | h
        · exact hnd q p hq hp h e2
        · exact hnd p q hp hq h e2.symm
      exact ho q hq (by omega)
theorem rOrder_eq {cl : List S67} {rk : List Int} (v : Valid cl rk) (k : Nat) (hk : 1200 < k) : walkmillref04_Order.f k cl rk = some (ordA cl rk) := by
  have h10 := v.c10
  unfold walkmillref04_Order.f
  rw [if_pos (by omega), if_pos (by omega), Int.toNat_natCast]
  exact rOrder_l0 v cl.length 0 k _ (by omega) (by omega) (by simp) (fun p hp h => by have := mem_rng.1 ((ordA_perm cl rk).mem_iff.1 (List.getElem_mem hp)); omega)
end Go.Proofs.YtlmglnobdcgbeaaGreat.P
namespace Go.Proofs.YtlmglnobdcgbeaaGreat.P
open Go.RowKit Go.Proofs.YtlmglnobdcgbeaaGreatW.PrintWords Go.Proofs.YtlmglnobdcgbeaaGreatW.PrintLast Go.Proofs.YtlmglnobdcgbeaaGreatW.PrintMore
attribute [local go_sem] max2_int min2_int max_two min_two max_three min_three max_four min_four
def walkmilllaw04_long.f (l0_0 : List (S67)) (l0_1 : List Int) : Option (Bool) := if (l0_0.length : Int) > 20 then (some true) else (some (decide ((l0_1.length : Int) > 10)))
set_option maxHeartbeats 8000000 in
set_option maxRecDepth 100000 in
theorem walkmilllaw04_long.calls (A0_0 : Option Addr) (c0_0 : Nat) (l0_0 : List (S67)) (A0_1 : Option Addr) (c0_1 : Nat) (l0_1 : List Int) (r : Bool) (w : World) (hr0_0 : Kd.C k67 w A0_0 l0_0.length l0_0) (hc0_0 : l0_0.length ≤ c0_0) (hr0_1 : Kd.C (Kd.int .i64) w A0_1 l0_1.length l0_1) (hc0_1 : l0_1.length ≤ c0_1) (h : walkmilllaw04_long.f l0_0 l0_1 = some r) :
  Calls Tryz.prog 16 #[.agg #[.slice A0_0 l0_0.length c0_0, .slice A0_1 l0_1.length c0_1]] w fun e w' => e = .returned (.bool r) ∧ Below w.heap.size w w' := by
 have hu25 := Tryz.underlying25
 have HR0_0 := Aside0.mk hr0_0
 have HC0_0 := Aside0.mk hc0_0
 clear hr0_0 hc0_0
 have HR0_1 := Aside0.mk hr0_1
 have HC0_1 := Aside0.mk hc0_1
 clear hr0_1 hc0_1
 have HB := Aside0.mk (Below.refl w.heap.size w)
 have H : (if (l0_0.length : Int) > 20 then (some true) else (some (decide ((l0_1.length : Int) > 10)))) = some r := h
 clear h
 by_cases c2 : (l0_0.length : Int) > 20
 ·rw [if_pos c2] at H
  have c2b0 : decide (20 < (l0_0.length : Int)) = true := decide_eq_true c2
  have c2b1 : decide (20 < l0_0.length) = true := decide_eq_true (by omega)
  clear c2
  obtain rfl := Option.some.inj H
  go_enter Tryz.func16, Tryz.ntmps16
  go_wp2_with (first | ((with_reducible refine gate_dst (N := 1) rfl ?_); (try (refine gate_guard (by rfl) ?_; dsimp only)); refine bx 1 #[.slice A0_0 l0_0.length c0_0, .slice A0_1 l0_1.length c0_1] 25 ?_; intro gb101 hg w3 hbox hb; have BK101 := hbox; have GW101 := gs HB hg; have GE101 := gs HB hg; replace HB := bs HB hb; clear hb hbox hg; obtain ⟨_, _, _, _⟩ := cf2 BK101))
  go_ret
  exact ⟨eT, pE HB⟩
 ·rw [if_neg c2] at H
  have c2b0 : decide (20 < (l0_0.length : Int)) = false := decide_eq_false c2
  have c2b1 : decide (20 < l0_0.length) = false := decide_eq_false (by omega)
  clear c2
  obtain rfl := Option.some.inj H
  go_enter Tryz.func16, Tryz.ntmps16
  go_wp2_with (first | ((with_reducible refine gate_dst (N := 1) rfl ?_); (try (refine gate_guard (by rfl) ?_; dsimp only)); refine bx 1 #[.slice A0_0 l0_0.length c0_0, .slice A0_1 l0_1.length c0_1] 25 ?_; intro gb101 hg w5 hbox hb; have BK101 := hbox; have GW101 := gs HB hg; have GE101 := gs HB hg; replace HB := bs HB hb; clear hb hbox hg; obtain ⟨_, _, _, _⟩ := cf2 BK101))
  go_ret
  exact ⟨eT, pE HB⟩
end Go.Proofs.YtlmglnobdcgbeaaGreat.P
